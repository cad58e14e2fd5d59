import Derived.Test.YtpfehnopghffjaaGreatDoorT12
import Derived.Test.YtpfehnopghffjaaGreatDoorT16
import Derived.Test.YtpfehnopghffjaaGreatDoorT13
set_option linter.unusedVariables false
set_option linter.unusedSimpArgs false
set_option maxRecDepth 20000
namespace Go.Proofs.YtpfehnopghffjaaGreatDoor
open Go
open room files
attribute [local irreducible] readD slotB slotF mountF slotOK checkR disk.readF findTo findF writeF nameF
theorem refNow0_fn {w : World} {v : Value} {d : Disk} {n : Int} (h : disk.tDisk.rep All w v d) (hA : disk.askedF d n = 0) : Fn Tryz.prog 123 [v, i64 n] w (fun r w2 => tBytes.rep All w2 r (disk.readF d n) ∧ Ext (fun _ => False) w w2) :=
 (refNow_fn h hA).mono (fun r w2 ⟨b, h1, _, h3⟩ => ⟨(OwnO.ofOwn h1 (B := fun _ => True) (fun _ => trivial)).rep (fun _ _ _ => trivial) (fun _ h _ => h.elim), h3⟩)
theorem set_first {b : Bs} {N i : Nat} (hi : i < b.length) (hN : b.length ≤ N) : (((b.take i ++ List.replicate (N - i) 0).map u8).set i (u8 b[i])) = (b.take (i + 1) ++ List.replicate (N - (i + 1)) 0).map u8 := by
 rw [← List.map_set]
 congr 1
 have hl : (b.take i).length = i := by rw [List.length_take]; omega
 rw [List.set_append_right _ _ (by omega), hl, Nat.sub_self, show N - i = (N - (i + 1)) + 1 by omega, List.replicate_succ, List.set_cons_zero, List.take_succ_eq_append_getElem hi, List.append_assoc]
 rfl
theorem refNewB_fn {w : World} {n : Int} (hn : 1 ≤ n ∧ n ≤ 4096) : Fn Tryz.prog 79 [i64 n] w (fun r w2 => ∃ b, r = .tuple #[.agg #[i64 n, .slice (some ⟨b, 0, none⟩) (n.toNat * 128) (n.toNat * 128), .slice none 0 0], i64 0] ∧ Blk w2 b 5 (List.replicate (n.toNat * 128) (.int .u8 0)) ∧ w.heap.size < b ∧ Ext (fun _ => False) w w2) := by
 refine Fn.enter (fun w => Tryz.call79 _ w) Tryz.func79 rfl ?_
 refine .seq (.region ?_)
 refine .v rfl rfl (.alloc rfl rfl) ?_
 rintro _ w2 ⟨rfl, N2⟩
 refine .p rfl rfl (.as rfl) (.nil (.code (.seq (.seq (.keep [(2, _), (0, _)] ⟨rfl, rfl, trivial⟩ (.region ?_))))))
 refine .p rfl rfl (.mv rfl) (.p rfl rfl (.no (.lt rfl rfl) (by omega)) (.p rfl rfl (.mv rfl) (.p rfl rfl (.mv rfl) (.p rfl rfl (.no (.gt rfl rfl) (by omega)) (.p rfl rfl (.pickF rfl rfl) (.nil (.code (.keep [(9, _), (2, _), (0, _)] ⟨rfl, rfl, rfl, trivial⟩ (.condF rfl (.skip (.code (.seq (.keep [(2, _), (0, _)] ⟨rfl, rfl, trivial⟩ (.region ?_))))))))))))))
 refine .p rfl rfl (.mv rfl) (.p rfl rfl (.mv rfl) (.p rfl rfl (.mul rfl rfl (by omega)) (.v rfl rfl (.make (eb := 1) rfl rfl rfl rfl rfl rfl rfl rfl (by omega)) ?_)))
 rintro _ w14 ⟨rfl, N14⟩
 refine .p rfl rfl (.build (cs := [i64 n, .slice (some ⟨w2.heap.size, 0, none⟩) (n * 128).toNat (n * 128).toNat, .slice none 0 0]) rfl (fun _ => by kernel_rfl)) (.s rfl (.storeAll (n := 3) rfl rfl rfl rfl rfl (N2.blk.ext N14.ext (fun x => x)) rfl) ?_)
 intro w15 P15
 have X15 := (N2.ext.trans N14.ext).then P15.ext (by rintro k rfl _; exact Nat.le_refl _)
 have hz : w2.heap.size = w.heap.size + 1 := N2.size
 refine .p rfl rfl (.as rfl) (.nil (.code ?_))
 refine .retR (.cell (n := 3) rfl rfl rfl rfl rfl (P15.blk.cells) (.tmp rfl .nil)) ?_
 have e : (n * 128).toNat = n.toNat * 128 := by omega
 rw [e]
 have B := N14.blk.ext P15.ext (by show ¬ w2.heap.size = w.heap.size; omega)
 rw [e] at B
 exact ⟨w2.heap.size, rfl, B, by omega, X15⟩
theorem RefFormat_fn {w : World} {n : Int} : Fn Tryz.prog 29 [i64 n] w (fun r w2 => ∃ v, r = .tuple #[v, i64 (formatF n).2] ∧ disk.tDisk.rep (fun k => w.heap.size ≤ k) w2 v (formatF n).1 ∧ Ext (fun _ => False) w w2) := by
 refine Fn.enter (fun w => Tryz.call29 _ w) Tryz.func29 rfl ?_
 refine .seq (.region ?_)
 refine .v rfl rfl (.alloc rfl rfl) ?_
 rintro _ w2 ⟨rfl, N2⟩
 have X2 := N2.ext
 have B2 := N2.blk
 have z2 : w2.heap.size = w.heap.size + 1 := N2.size
 refine .p rfl rfl (.as rfl) (.nil (.code (.seq (.seq (.keep [(2, _), (0, _)] ⟨rfl, rfl, trivial⟩ (.region ?_))))))
 refine .p rfl rfl (.mv rfl) (.p rfl rfl (.lt rfl rfl) (.p rfl rfl (.mv rfl) ?_))
 refine .caseD 11 rfl (fun c11 => ?_) (fun c11 => ?_)
 ·refine .skip rfl rfl (.skip rfl rfl (.p rfl rfl (.pickT rfl rfl) (.nil (.code (.keep [(14, _), (2, _), (0, _)] ⟨rfl, rfl, rfl, trivial⟩ (.condT rfl (.seq (.keep [(2, _)] ⟨rfl, trivial⟩ (.region ?_)))))))))
  refine .p rfl rfl (.build (cs := [i64 0, .slice none 0 0, .slice none 0 0]) rfl (fun _ => by kernel_rfl)) (.s rfl (.storeAll (n := 3) rfl rfl rfl rfl rfl N2.blk rfl) ?_)
  intro w3 P3
  refine .p rfl rfl (.as rfl) (.nil (.code ?_))
  refine .retR (.cell (n := 3) rfl rfl rfl rfl rfl (P3.blk.cells) (.tmp rfl .nil)) ?_
  rw [formatF_20 (by omega)]
  exact ⟨_, rfl, disk.tDisk.mk (d := disk.nodisk) Sl.nil Sl.nil (by decide), N2.ext.then P3.ext (by rintro k rfl _; exact Nat.le_refl _)⟩
 ·refine .p rfl rfl (.mv rfl) (.p rfl rfl (.gt rfl rfl) (.p rfl rfl (.pickF rfl rfl) (.nil (.code (.keep [(14, _), (2, _), (0, _)] ⟨rfl, rfl, rfl, trivial⟩ ?_)))))
  refine .condD rfl (fun c14 => ?_) (fun c14 => ?_)
  ·refine .seq (.keep [(2, _)] ⟨rfl, trivial⟩ (.region ?_))
   refine .p rfl rfl (.build (cs := [i64 0, .slice none 0 0, .slice none 0 0]) rfl (fun _ => by kernel_rfl)) (.s rfl (.storeAll (n := 3) rfl rfl rfl rfl rfl N2.blk rfl) ?_)
   intro w3 P3
   refine .p rfl rfl (.as rfl) (.nil (.code ?_))
   refine .retR (.cell (n := 3) rfl rfl rfl rfl rfl (P3.blk.cells) (.tmp rfl .nil)) ?_
   rw [formatF_20 (by omega)]
   exact ⟨_, rfl, disk.tDisk.mk (d := disk.nodisk) Sl.nil Sl.nil (by decide), N2.ext.then P3.ext (by rintro k rfl _; exact Nat.le_refl _)⟩
  ·have h96 : ¬ (n < 96 ∨ 4096 < n) := by omega
   refine .skip (.code (.seq (.keep [(2, _), (0, _)] ⟨rfl, rfl, trivial⟩ (.region ?_))))
   refine .p rfl rfl (.mv rfl) (.call (first := []) (captured := []) rfl rfl rfl rfl (refNewB_fn (n := n) (by omega)) ?_)
   rintro _ w18 ⟨b, rfl, Bb, hb, X18⟩
   have z18 := X18.size
   have hbl := Bb.lt
   refine .p rfl rfl (.mv rfl) (.p rfl rfl (.extract rfl rfl) (.p rfl rfl (.extract rfl rfl) (.v rfl rfl (.alloc rfl rfl) ?_)))
   rintro _ wn4 ⟨rfl, N4⟩
   refine .s rfl (.storeAll (n := 3) rfl rfl rfl rfl rfl N4.blk rfl) ?_
   intro w4 P4
   have Y4 := N4.ext.then P4.ext (by rintro k rfl _; exact Nat.le_refl _)
   have zy4 := Y4.size
   have B4 := P4.blk
   clear P4 N4
   refine .p rfl rfl (.as rfl) (.nil (.code (.seq (.keep [(4, _), (2, _)] ⟨rfl, rfl, trivial⟩ (.region ?_)))))
   refine .p rfl rfl (.build (cs := [i64 1, .slice none 0 0]) rfl (fun _ => by kernel_rfl)) (.call (first := []) (captured := []) rfl rfl rfl rfl (RefWriteD_fn (x := ⟨1, []⟩) (tDir.mk (x := ⟨1, []⟩) Sl.nil ⟨by show (-9223372036854775808 : Int) ≤ 1; decide, by show (1 : Int) ≤ _; decide⟩) (by show (0 : Nat) ≤ _; decide)) ?_)
   rintro _ w23 ⟨v23, rfl, G23, X23⟩
   have z23 := X23.size
   have hl1 := write_1.2
   obtain ⟨aw, kw, rfl, _⟩ := OwnO.val G23
   have RW := Gr.rep' G23
   have hX4 : Ext (fun _ => False) w4 w23 := X23
   have lb4 := ((Bb.ext (S := fun _ => False) (by repeat (first | exact Ext.refl _ | assumption | refine Ext.trans (by assumption) ?_)) (fun x => x))).lt
   refine .p rfl rfl (.mv rfl) (.p rfl rfl (.extract rfl rfl) (.p rfl rfl (.extract rfl rfl) (.p rfl rfl (.as rfl) (.p rfl rfl (.as rfl) (.nil (.code (.seq (.seq (.keep [(6, _), (4, _), (2, _)] ⟨rfl, rfl, rfl, trivial⟩ (.region ?_))))))))))
   refine .p rfl rfl (.as rfl) (.nil (.code (.block ?_)))
   have B423 := B4.ext X23 (fun x => x)
   have B223 := ((B2.ext X18 (fun x => x)).ext Y4 (fun x => x)).ext X23 (fun x => x)
   have Z23 : Ext (fun _ => False) w w23 := (by repeat (first | exact Ext.refl _ | assumption | refine Ext.trans (by assumption) ?_))
   refine .loop (S := Nat × World) (fun s => [(2, .pointer (some ⟨w.heap.size, 0, none⟩)), (4, .pointer (some ⟨w18.heap.size, 0, none⟩)), (6, .slice aw (writeF ⟨1, []⟩).1.length kw), (8, i64 s.1)]) (fun s => s.2) (fun s => s.1 ≤ (writeF ⟨1, []⟩).1.length ∧ Blk s.2 b 5 (((writeF ⟨1, []⟩).1.take s.1 ++ List.replicate (n.toNat * 128 - s.1) 0).map u8) ∧ Ext (fun k => k = b) w23 s.2) (fun s => (writeF ⟨1, []⟩).1.length - s.1) (0, w23) ⟨rfl, rfl, rfl, rfl, trivial⟩ rfl ⟨Nat.zero_le _, by rw [List.take_zero, List.nil_append, Nat.sub_zero, List.map_replicate]; exact (Bb.ext (S := fun _ => False) (by repeat (first | exact Ext.refl _ | assumption | refine Ext.trans (by assumption) ?_)) (fun x => x)), .refl _⟩ ?_
   rintro ⟨i, wi⟩ J ⟨hi', hD, hX⟩ again
   simp only at hi' hD hX
   have zi := hX.size
   change G _ [(2, .pointer (some ⟨w.heap.size, 0, none⟩)), (4, .pointer (some ⟨w18.heap.size, 0, none⟩)), (6, .slice aw (writeF ⟨1, []⟩).1.length kw), (8, i64 i)] _ _ wi
   refine .seq (.seq (.region ?_))
   refine .p rfl rfl (.mv rfl) (.p rfl rfl (.mv rfl) (.p rfl rfl (.len rfl rfl) (.p rfl rfl (.lt rfl rfl) (.nil (.code (.keep [(29, _), (2, _), (4, _), (6, _), (8, _)] ⟨rfl, rfl, rfl, rfl, rfl, trivial⟩ ?_))))))
   refine .condD rfl (fun c29 => ?_) (fun c29 => ?_)
   ·have hi : i < (writeF ⟨1, []⟩).1.length := by omega
    obtain ⟨be, oe, ee, hbe, hce⟩ := Sl.byteAt (tBytes.ext RW hX (fun k hk _ e => by have hk := hk.1; have e : k = b := e; omega)) hi
    cases ee
    refine .skip (.code (.seq (.block (.keep [(2, _), (4, _), (6, _), (8, _)] ⟨rfl, rfl, rfl, rfl, trivial⟩ (.mix (fun k => k = b) [8] (by kernel_rfl) (by kernel_rfl) (by kernel_rfl) ?_)))))
    refine .p rfl rfl rfl (fun wx hx => .fieldAddr rfl rfl rfl rfl) (.p rfl rfl rfl (fun wx hx => .load rfl rfl rfl ((B423.ext (hX.trans hx) (by show ¬ w18.heap.size = b; omega)).cell 1)) ?_)
    refine .p rfl rfl rfl (fun wx hx => .mv rfl) (.p rfl rfl rfl (fun wx hx => .mv rfl) (.p rfl rfl rfl (fun wx hx => .mv rfl) (.p rfl rfl rfl (fun wx hx => .indexAddr1 rfl rfl rfl rfl (by omega)) (.p rfl rfl rfl (fun wx hx => .load rfl rfl rfl (hx.cell hce (by show ¬ be = b; have := hbe.1; omega))) ?_))))
    refine .p rfl rfl rfl (fun wx hx => .indexAddr0 rfl rfl rfl rfl (by omega)) (.s rfl rfl (.store rfl rfl rfl rfl rfl hD (by rw [Int.toNat_natCast]; simp only [List.length_map, List.length_append, List.length_take, List.length_replicate]; omega)) (by intro wz hP; exact hP.ext) ?_)
    intro w8 P8
    have D8 := P8.blk
    rw [Int.toNat_natCast, set_first hi (by omega)] at D8
    refine .nil (.blk (.code (.keep [(2, _), (4, _), (6, _), (8, _)] ⟨rfl, rfl, rfl, rfl, trivial⟩ (.region ?_))))
    refine .p rfl rfl (.mv rfl) (.p rfl rfl (.add rfl rfl (by omega)) (.p rfl rfl (.as rfl) (.nil ?_)))
    exact (again (i + 1, w8) ⟨by show i + 1 ≤ _; omega, D8, hX.trans P8.ext⟩ (by show _ - (i + 1) < _ - i; omega)).of ⟨rfl, rfl, rfl, rfl, trivial⟩
   ·obtain rfl : i = (writeF ⟨1, []⟩).1.length := by omega
    refine .exit rfl (.code (.seq (.keep [(2, _), (4, _)] ⟨rfl, rfl, trivial⟩ (.region ?_))))
    refine .p rfl rfl (.loadA (n := 3) rfl rfl rfl rfl rfl (B423.ext hX (by show ¬ w18.heap.size = b; omega)).cells) ?_
    refine .s rfl (.storeAll (n := 3) rfl rfl rfl rfl rfl (B223.ext hX (by show ¬ w.heap.size = b; omega)) rfl) ?_
    intro w9 P9
    refine .p rfl rfl (.as rfl) (.nil (.code ?_))
    refine .retR (.cell (n := 3) rfl rfl rfl rfl rfl (P9.blk.cells) (.tmp rfl .nil)) ?_
    rw [formatF_0 h96]
    refine ⟨_, rfl, ?_, (Z23.then hX (by rintro k rfl _; omega)).then P9.ext (by rintro k rfl _; omega)⟩
    rw [List.take_length, hl1] at hD
    refine disk.tDisk.mk (d := ⟨n, (writeF ⟨1, []⟩).1 ++ List.replicate (n.toNat * 128 - 1024) 0, []⟩) (tBytes.mono (Sl.mkBytesB (P := fun k => k = b) (hD.ext P9.ext (by omega)) (List.take_of_length_le (by simp)) rfl (by rw [List.length_append, List.length_replicate]; omega) (by rw [List.length_append, List.length_replicate]; simp only [Lim]; omega) (by rw [List.length_append, List.length_replicate]; omega)) (by rintro k rfl _; show w.heap.size ≤ k; omega)) Sl.nil (by show -9223372036854775808 ≤ n ∧ n ≤ 9223372036854775807; omega)
theorem refHeld_fn {w : World} {v : Value} {d : Disk} {n : Nat} (h : disk.tDisk.rep All w v d) (hc : disk.checkF d = 0) (hn : ((n + 8 : Nat) : Int) ≤ d.count) : Fn Tryz.prog 131 [v, i64 (n : Nat)] w (fun r w2 => ∃ u t, r = .tuple #[u, .bool t] ∧ (t = true ↔ slotOK d n) ∧ (∃ y, tDir.rep (fun k => w.heap.size ≤ k) w2 u y) ∧ (t = true → tDir.rep (fun k => w.heap.size ≤ k) w2 u (slotF d n)) ∧ Ext (fun _ => False) w w2) := by
 have h0 := h
 obtain ⟨u, u', rfl, hd1, hd2, hdc⟩ := disk.tDisk.val h
 obtain ⟨a1, k1, rfl, _⟩ := Sl.val hd1
 obtain ⟨a2, k2, rfl, _⟩ := Sl.val hd2
 have hct := (disk.check_ok hc).2.1
 refine Fn.enter (fun w => Tryz.call131 _ w) Tryz.func131 rfl ?_
 refine .seq (.region ?_)
 refine .v rfl rfl (.box rfl) ?_
 rintro _ w2 ⟨rfl, N2⟩
 have B2 := N2.blk
 have X2 := N2.ext
 have z2 := N2.size
 refine .v rfl rfl (.alloc rfl rfl) ?_
 rintro _ w4 ⟨rfl, N4⟩
 have B4 := N4.blk
 have X4 := N4.ext
 have z4 : w4.heap.size = w2.heap.size + 1 := N4.size
 refine .p rfl rfl (.as rfl) (.nil (.code (.seq (.keep [(4, _), (2, _), (1, _)] ⟨rfl, rfl, rfl, trivial⟩ (.region ?_)))))
 refine .p rfl rfl (.as rfl) (.nil (.code (.seq (.seq (.region ?_)))))
 refine .p rfl rfl (.as rfl) (.nil (.code (.block ?_)))
 refine .loop (S := Nat × Bs × Value × World) (fun s => [(1, i64 (n : Nat)), (2, .pointer (some ⟨w.heap.size, 0, none⟩)), (4, .pointer (some ⟨w2.heap.size, 0, none⟩)), (6, s.2.2.1), (7, i64 s.1)]) (fun s => s.2.2.2) (fun s => s.1 ≤ 8 ∧ s.2.1 = (List.range s.1).flatMap (fun i => disk.readF d ((n + i : Nat) : Int)) ∧ Gr s.2.2.2 s.2.2.1 s.2.1 w4.heap.size ∧ Ext (fun _ => False) w4 s.2.2.2) (fun s => 8 - s.1) (0, [], .slice none 0 0, w4) ⟨rfl, rfl, rfl, rfl, rfl, trivial⟩ rfl ⟨Nat.zero_le _, rfl, OwnO.nil, .refl _⟩ ?_
 rintro ⟨i, acc, vi, wi⟩ J ⟨hi', ha, hO, hX⟩ again
 simp only at hi' ha hO hX
 have zi := hX.size
 have hal := slot_to hc hn hi'
 rw [← ha] at hal
 change G _ [(1, i64 (n : Nat)), (2, .pointer (some ⟨w.heap.size, 0, none⟩)), (4, .pointer (some ⟨w2.heap.size, 0, none⟩)), (6, vi), (7, i64 i)] _ _ wi
 refine .seq (.seq (.region ?_))
 refine .p rfl rfl (.mv rfl) (.p rfl rfl (.lt rfl rfl) (.nil (.code (.keep [(11, _), (1, _), (2, _), (4, _), (6, _), (7, _)] ⟨rfl, rfl, rfl, rfl, rfl, rfl, trivial⟩ ?_))))
 refine .condD rfl (fun c11 => ?_) (fun c11 => ?_)
 ·have hi : i < 8 := by omega
  have hrl := fread_length hc (n := ((n + i : Nat) : Int)) (by omega) (by omega)
  refine .skip (.code (.seq (.block (.keep [(1, _), (2, _), (4, _), (6, _), (7, _)] ⟨rfl, rfl, rfl, rfl, rfl, trivial⟩ (.region ?_)))))
  refine .p rfl rfl (.mv rfl) (.p rfl rfl (.loadA (n := 3) rfl rfl rfl rfl rfl (B2.ext (S := fun _ => False) (by repeat (first | exact Ext.refl _ | assumption | refine Ext.trans (by assumption) ?_)) (fun x => x)).cells) ?_)
  refine .p rfl rfl (.mv rfl) (.p rfl rfl (.mv rfl) (.p rfl rfl (.cast (.add rfl rfl (by omega)) (show _ = i64 ((n + i : Nat) : Int) by congr 1)) (.call (first := []) (captured := []) rfl rfl rfl rfl (refNow0_fn (n := ((n + i : Nat) : Int)) (disk.tDisk.ext0 h0 (by repeat (first | exact Ext.refl _ | assumption | refine Ext.trans (by assumption) ?_))) (disk.asked_of hc (by omega) (by omega))) ?_)))
  rintro v19 w19 ⟨R19, X19⟩
  have z19 := X19.size
  refine .v rfl rfl (.appendLo (t := tByte) (eb := 1) rfl (OwnO.ext0 hO X19) (fun k hk => by show w4.heap.size ≤ k; omega) rfl (Gr.holds R19) rfl rfl rfl rfl rfl rfl rfl (by omega) (by simp only [Lim]; omega) (fun _ h _ => h.elim)) ?_
  rintro v20 w20 ⟨O20, A20⟩
  have z20 := A20.size
  refine .p rfl rfl (.as rfl) (.nil (.blk (.code (.keep [(6, _), (1, _), (2, _), (4, _), (7, _)] ⟨rfl, rfl, rfl, rfl, rfl, trivial⟩ (.region ?_)))))
  refine .p rfl rfl (.mv rfl) (.p rfl rfl (.add rfl rfl (by omega)) (.p rfl rfl (.as rfl) (.nil ?_)))
  exact (again (i + 1, acc ++ disk.readF d ((n + i : Nat) : Int), v20, w20) ⟨by show i + 1 ≤ 8; omega, by show _ = _; rw [slot_step, ha], O20, (hX.trans X19).then A20 (fun k h _ => h)⟩ (by show 8 - (i + 1) < 8 - i; omega)).of ⟨rfl, rfl, rfl, rfl, rfl, trivial⟩
 ·obtain rfl : i = 8 := by omega
  have ha : acc = slotB d n := by rw [ha]; unfold slotB; rfl
  subst ha
  refine .exit rfl (.code (.seq (.keep [(2, _), (4, _), (6, _)] ⟨rfl, rfl, rfl, trivial⟩ (.region ?_))))
  refine .p rfl rfl (.mv rfl) (.call (first := []) (captured := []) rfl rfl rfl rfl (RefReadD_fn (b := slotB d n) (Gr.rep hO)) ?_)
  rintro _ w23 ⟨v23, rfl, R23, X23⟩
  have z23 := X23.size
  obtain ⟨aF, kF, rfl, hF, hgF⟩ := tDir.val R23
  have R23 : tDir.rep (fun k => wi.heap.size ≤ k) w23 (.agg #[i64 (readD (slotB d n)).1.gen, .slice aF (readD (slotB d n)).1.fs.length kF]) (slotF d n) := by unfold slotF; exact R23
  refine .p rfl rfl (.mv rfl) (.p rfl rfl (.extract rfl rfl) (.p rfl rfl (.extract rfl rfl) (.v rfl rfl (.alloc rfl rfl) ?_)))
  rintro _ wn8 ⟨rfl, N8⟩
  refine .s rfl (.storeAll (n := 2) rfl rfl rfl rfl rfl N8.blk rfl) ?_
  intro w8 P8
  have Y8 := N8.ext.then P8.ext (by rintro k rfl _; exact Nat.le_refl _)
  have zy8 := Y8.size
  have B8 := P8.blk
  clear P8 N8
  refine .p rfl rfl (.as rfl) (.nil (.code (.seq (.seq (.keep [(9, _), (8, _), (2, _), (4, _)] ⟨rfl, rfl, rfl, rfl, trivial⟩ (.mix (fun _ => False) [6, 7] (by kernel_rfl) (by kernel_rfl) (by kernel_rfl) ?_))))))
  refine .p rfl rfl rfl (fun wx hx => .mv rfl) (.p rfl rfl rfl (fun wx hx => .ne rfl rfl) (.p rfl rfl rfl (fun wx hx => .mv rfl) ?_))
  refine .caseD 28 rfl (fun c28 => ?_) (fun c28 => ?_)
  ·refine .skip rfl rfl (.skip rfl rfl (.skip rfl rfl (.skip rfl rfl (.skip rfl rfl (.skip rfl rfl (.p rfl rfl rfl (fun wx hx => .pickT rfl rfl) (.nil (.code (.keep [(35, _), (8, _), (4, _)] ⟨rfl, rfl, rfl, trivial⟩ (.condT rfl (.seq (.keep [(4, _)] ⟨rfl, trivial⟩ (.region ?_)))))))))))))
   refine .p rfl rfl (.build (cs := [i64 0, .slice none 0 0]) rfl (fun _ => by kernel_rfl)) (.s rfl (.storeAll (n := 2) rfl rfl rfl rfl rfl (B4.ext (S := fun _ => False) (by repeat (first | exact Ext.refl _ | assumption | refine Ext.trans (by assumption) ?_)) (fun x => x)) rfl) ?_)
   intro w9 P9
   have z9 := P9.ext.size
   refine .p rfl rfl (.as rfl) (.nil (.code ?_))
   refine .retR (.cell (n := 2) rfl rfl rfl rfl rfl (P9.blk.cells) (.tmp rfl .nil)) ?_
   exact ⟨_, _, rfl, ⟨fun h => (by cases h), fun h => absurd h (slotOK_no c28)⟩, ⟨⟨0, []⟩, nil_dir⟩, fun h => (by cases h), Ext.then (S := fun k => k = w2.heap.size) (by repeat (first | exact Ext.refl _ | assumption | refine Ext.trans (by assumption) ?_)) P9.ext (by rintro k rfl _; omega)⟩
  ·refine .p rfl rfl rfl (fun wx hx => .fieldAddr rfl rfl rfl rfl) (.p rfl rfl rfl (fun wx hx => .load rfl rfl rfl (((B2.ext (S := fun _ => False) (by repeat (first | exact Ext.refl _ | assumption | refine Ext.trans (by assumption) ?_)) (fun x => x)).ext hx (fun x => x)).cell 0)) ?_)
   refine .p rfl rfl rfl (fun wx hx => .loadA (n := 2) rfl rfl rfl rfl rfl (B8.ext hx (fun x => x)).cells) (.call (first := []) (captured := []) rfl rfl rfl rfl rfl (refPieces_fn (allOf (tDir.ext0 R23 (by repeat (first | exact Ext.refl _ | assumption | refine Ext.trans (by assumption) ?_)))) (slot_all (Decidable.not_not.1 c28))) (by rintro _ _ ⟨_, hx⟩; exact hx) ?_)
   rintro v32 w32 ⟨O32, X32⟩
   have z32 := X32.size
   refine .call (first := []) (captured := []) rfl rfl rfl rfl rfl (RefCheck_fn (count := d.count) (OwnO.rep O32 (fun _ _ _ => trivial) (fun _ h _ => h.elim))) (by rintro _ _ ⟨_, hx⟩; exact X32.trans hx) ?_
   rintro _ w33 ⟨rfl, X33⟩
   have z33 := X33.size
   refine .p rfl rfl rfl (fun wx hx => .ne rfl rfl) (.p rfl rfl rfl (fun wx hx => .pickF rfl rfl) (.nil (.code (.keep [(35, _), (8, _), (4, _)] ⟨rfl, rfl, rfl, trivial⟩ ?_))))
   refine .condD rfl (fun c35 => ?_) (fun c35 => ?_)
   ·refine .seq (.keep [(4, _)] ⟨rfl, trivial⟩ (.region ?_))
    refine .p rfl rfl (.build (cs := [i64 0, .slice none 0 0]) rfl (fun _ => by kernel_rfl)) (.s rfl (.storeAll (n := 2) rfl rfl rfl rfl rfl (B4.ext (S := fun _ => False) (by repeat (first | exact Ext.refl _ | assumption | refine Ext.trans (by assumption) ?_)) (fun x => x)) rfl) ?_)
    intro w9 P9
    have z9 := P9.ext.size
    refine .p rfl rfl (.as rfl) (.nil (.code ?_))
    refine .retR (.cell (n := 2) rfl rfl rfl rfl rfl (P9.blk.cells) (.tmp rfl .nil)) ?_
    exact ⟨_, _, rfl, ⟨fun h => (by cases h), fun h => absurd h (fun h => c35 ((slotOK_iff (Decidable.not_not.1 c28)).1 h))⟩, ⟨⟨0, []⟩, nil_dir⟩, fun h => (by cases h), Ext.then (S := fun k => k = w2.heap.size) (by repeat (first | exact Ext.refl _ | assumption | refine Ext.trans (by assumption) ?_)) P9.ext (by rintro k rfl _; omega)⟩
   ·refine .skip (.code (.seq (.keep [(8, _), (4, _)] ⟨rfl, rfl, trivial⟩ (.region ?_))))
    refine .p rfl rfl (.loadA (n := 2) rfl rfl rfl rfl rfl (B8.ext (S := fun _ => False) (by repeat (first | exact Ext.refl _ | assumption | refine Ext.trans (by assumption) ?_)) (fun x => x)).cells) ?_
    refine .s rfl (.storeAll (n := 2) rfl rfl rfl rfl rfl (B4.ext (S := fun _ => False) (by repeat (first | exact Ext.refl _ | assumption | refine Ext.trans (by assumption) ?_)) (fun x => x)) rfl) ?_
    intro w9 P9
    have z9 := P9.ext.size
    refine .p rfl rfl (.as rfl) (.nil (.code ?_))
    refine .retR (.cell (n := 2) rfl rfl rfl rfl rfl (P9.blk.cells) (.tmp rfl .nil)) ?_
    refine ⟨_, _, rfl, ⟨fun _ => (slotOK_iff (Decidable.not_not.1 c28)).2 (Decidable.not_not.1 c35), fun _ => rfl⟩, ⟨_, tDir.mono (tDir.ext (tDir.ext0 R23 (by repeat (first | exact Ext.refl _ | assumption | refine Ext.trans (by assumption) ?_))) P9.ext (fun k hk _ e => by have hk : wi.heap.size ≤ k := hk; have e : k = w2.heap.size := e; omega)) (fun k hk _ => by have hk : wi.heap.size ≤ k := hk; show w.heap.size ≤ k; omega)⟩, fun _ => tDir.mono (tDir.ext (tDir.ext0 R23 (by repeat (first | exact Ext.refl _ | assumption | refine Ext.trans (by assumption) ?_))) P9.ext (fun k hk _ e => by have hk : wi.heap.size ≤ k := hk; have e : k = w2.heap.size := e; omega)) (fun k hk _ => by have hk : wi.heap.size ≤ k := hk; show w.heap.size ≤ k; omega), Ext.then (S := fun k => k = w2.heap.size) (by repeat (first | exact Ext.refl _ | assumption | refine Ext.trans (by assumption) ?_)) P9.ext (by rintro k rfl _; omega)⟩
theorem refHeld0_fn {w : World} {v : Value} {d : Disk} (h : disk.tDisk.rep All w v d) (hc : disk.checkF d = 0) (hn : ¬ d.count < 96) : Fn Tryz.prog 131 [v, i64 0] w (fun r w2 => ∃ u t, r = .tuple #[u, .bool t] ∧ (t = true ↔ slotOK d 0) ∧ (∃ y, tDir.rep (fun k => w.heap.size ≤ k) w2 u y) ∧ (t = true → tDir.rep (fun k => w.heap.size ≤ k) w2 u (slotF d 0)) ∧ Ext (fun _ => False) w w2) := refHeld_fn (n := 0) h hc (by omega)
theorem refHeld8_fn {w : World} {v : Value} {d : Disk} (h : disk.tDisk.rep All w v d) (hc : disk.checkF d = 0) (hn : ¬ d.count < 96) : Fn Tryz.prog 131 [v, i64 8] w (fun r w2 => ∃ u t, r = .tuple #[u, .bool t] ∧ (t = true ↔ slotOK d 8) ∧ (∃ y, tDir.rep (fun k => w.heap.size ≤ k) w2 u y) ∧ (t = true → tDir.rep (fun k => w.heap.size ≤ k) w2 u (slotF d 8)) ∧ Ext (fun _ => False) w w2) := refHeld_fn (n := 8) h hc (by omega)
theorem mountR_0 {d : Disk} (h : disk.checkF d = 0) (h2 : ¬ d.count < 96) (h3 : slotOK d 0) (h4 : slotOK d 8 → (slotF d 8).gen ≤ (slotF d 0).gen) : mountF d = (slotF d 0, 0, 0) := mountF_0 h h2 h3 (fun ⟨h5, h6⟩ => by have := h4 h5; omega)
theorem refMounted_fn {w : World} {v : Value} {d : Disk} (h : disk.tDisk.rep All w v d) : Fn Tryz.prog 81 [v] w (fun r w2 => ∃ u, r = .tuple #[u, i64 ((mountF d).2.1 : Nat), i64 (mountF d).2.2] ∧ tDir.rep (fun k => w.heap.size ≤ k) w2 u (mountF d).1 ∧ Ext (fun _ => False) w w2) := by
 have h0 := h
 obtain ⟨u, u', rfl, hd1, hd2, hdc⟩ := disk.tDisk.val h
 obtain ⟨a1, k1, rfl, _⟩ := Sl.val hd1
 obtain ⟨a2, k2, rfl, _⟩ := Sl.val hd2
 refine Fn.enter (fun w => Tryz.call81 _ w) Tryz.func81 rfl ?_
 refine .seq (.region ?_)
 refine .v rfl rfl (.box rfl) ?_
 rintro _ w1 ⟨rfl, N1⟩
 have B1 := N1.blk
 have X1 := N1.ext
 have z1 := N1.size
 refine .v rfl rfl (.alloc rfl rfl) ?_
 rintro _ w2 ⟨rfl, N2⟩
 have B2 := N2.blk
 have X2 := N2.ext
 have z2 : w2.heap.size = w1.heap.size + 1 := N2.size
 refine .p rfl rfl (.as rfl) (.p rfl rfl (.as rfl) (.nil (.code (.seq (.keep [(2, _), (1, _)] ⟨rfl, rfl, trivial⟩ (.region ?_))))))
 refine .p rfl rfl (.loadA (n := 3) rfl rfl rfl rfl rfl (B1.ext (S := fun _ => False) (by repeat (first | exact Ext.refl _ | assumption | refine Ext.trans (by assumption) ?_)) (fun x => x)).cells) ?_
 refine .call (first := []) (captured := []) rfl rfl rfl rfl (refCheck_fn (disk.tDisk.ext0 h0 (by repeat (first | exact Ext.refl _ | assumption | refine Ext.trans (by assumption) ?_)))) ?_
 rintro _ w11 ⟨rfl, X11⟩
 have z11 := X11.size
 refine .p rfl rfl (.as rfl) (.nil (.code (.seq (.seq (.keep [(5, _), (2, _), (1, _)] ⟨rfl, rfl, rfl, trivial⟩ (.region ?_))))))
 refine .p rfl rfl (.mv rfl) (.p rfl rfl (.ne rfl rfl) (.nil (.code (.keep [(13, _), (5, _), (2, _), (1, _)] ⟨rfl, rfl, rfl, rfl, trivial⟩ ?_))))
 refine .condD rfl (fun c13 => ?_) (fun c13 => ?_)
 ·refine .seq (.keep [(5, _), (2, _)] ⟨rfl, rfl, trivial⟩ (.region ?_))
  refine .p rfl rfl (.build (cs := [i64 0, .slice none 0 0]) rfl (fun _ => by kernel_rfl)) (.p rfl rfl (.mv rfl) (.s rfl (.storeAll (n := 2) rfl rfl rfl rfl rfl (B2.ext (S := fun _ => False) (by repeat (first | exact Ext.refl _ | assumption | refine Ext.trans (by assumption) ?_)) (fun x => x)) rfl) ?_))
  intro w3 P3
  refine .p rfl rfl (.as rfl) (.p rfl rfl (.as rfl) (.nil (.code ?_)))
  refine .retR (.cell (n := 2) rfl rfl rfl rfl rfl (P3.blk.cells) (.tmp rfl (.tmp rfl .nil))) ?_
  rw [mountF_e c13]
  exact ⟨_, rfl, nil_dir, (Ext.then (S := fun k => k = w1.heap.size) (by repeat (first | exact Ext.refl _ | assumption | refine Ext.trans (by assumption) ?_)) P3.ext (by rintro k rfl _; omega))⟩
 ·have hck : disk.checkF d = 0 := Decidable.not_not.1 c13
  refine .skip (.code (.seq (.seq (.keep [(2, _), (1, _)] ⟨rfl, rfl, trivial⟩ (.region ?_)))))
  refine .p rfl rfl (.fieldAddr rfl rfl rfl rfl) (.p rfl rfl (.load rfl rfl rfl ((B1.ext (S := fun _ => False) (by repeat (first | exact Ext.refl _ | assumption | refine Ext.trans (by assumption) ?_)) (fun x => x)).cell 0)) ?_)
  refine .p rfl rfl (.lt rfl rfl) (.nil (.code (.keep [(18, _), (2, _), (1, _)] ⟨rfl, rfl, rfl, trivial⟩ ?_)))
  refine .condD rfl (fun c18 => ?_) (fun c18 => ?_)
  ·refine .seq (.keep [(2, _)] ⟨rfl, trivial⟩ (.region ?_))
   refine .p rfl rfl (.build (cs := [i64 0, .slice none 0 0]) rfl (fun _ => by kernel_rfl)) (.s rfl (.storeAll (n := 2) rfl rfl rfl rfl rfl (B2.ext (S := fun _ => False) (by repeat (first | exact Ext.refl _ | assumption | refine Ext.trans (by assumption) ?_)) (fun x => x)) rfl) ?_)
   intro w5 P5
   refine .p rfl rfl (.as rfl) (.p rfl rfl (.as rfl) (.nil (.code ?_)))
   refine .retR (.cell (n := 2) rfl rfl rfl rfl rfl (P5.blk.cells) (.tmp rfl (.tmp rfl .nil))) ?_
   rw [mountF_96 hck c18]
   exact ⟨_, rfl, nil_dir, (Ext.then (S := fun k => k = w1.heap.size) (by repeat (first | exact Ext.refl _ | assumption | refine Ext.trans (by assumption) ?_)) P5.ext (by rintro k rfl _; omega))⟩
  ·refine .skip (.code (.seq (.keep [(2, _), (1, _)] ⟨rfl, rfl, trivial⟩ (.region ?_))))
   refine .p rfl rfl (.loadA (n := 3) rfl rfl rfl rfl rfl (B1.ext (S := fun _ => False) (by repeat (first | exact Ext.refl _ | assumption | refine Ext.trans (by assumption) ?_)) (fun x => x)).cells) ?_
   refine .call (first := []) (captured := []) rfl rfl rfl rfl (refHeld0_fn (disk.tDisk.ext0 h0 (by repeat (first | exact Ext.refl _ | assumption | refine Ext.trans (by assumption) ?_))) hck c18) ?_
   rintro _ w22 ⟨u22, t22, rfl, ht22, ⟨y22, Y22⟩, R22, X22⟩
   have z22 := X22.size
   obtain ⟨a6, k6, rfl, hf6, hg6⟩ := tDir.val Y22
   refine .p rfl rfl (.mv rfl) (.p rfl rfl (.extract rfl rfl) (.p rfl rfl (.extract rfl rfl) (.v rfl rfl (.alloc rfl rfl) ?_)))
   rintro _ wn6 ⟨rfl, N6⟩
   refine .s rfl (.storeAll (n := 2) rfl rfl rfl rfl rfl N6.blk rfl) ?_
   intro w6 P6
   have YY6 := N6.ext.then P6.ext (by rintro k rfl _; exact Nat.le_refl _)
   have zy6 := YY6.size
   have B6 := P6.blk
   clear P6 N6
   refine .p rfl rfl (.as rfl) (.nil (.code (.seq (.keep [(7, _), (6, _), (2, _), (1, _)] ⟨rfl, rfl, rfl, rfl, trivial⟩ (.region ?_)))))
   refine .p rfl rfl (.loadA (n := 3) rfl rfl rfl rfl rfl (B1.ext (S := fun _ => False) (by repeat (first | exact Ext.refl _ | assumption | refine Ext.trans (by assumption) ?_)) (fun x => x)).cells) ?_
   refine .call (first := []) (captured := []) rfl rfl rfl rfl (refHeld8_fn (disk.tDisk.ext0 h0 (by repeat (first | exact Ext.refl _ | assumption | refine Ext.trans (by assumption) ?_))) hck c18) ?_
   rintro _ w27 ⟨u27, t27, rfl, ht27, ⟨y27, Y27⟩, R27, X27⟩
   have z27 := X27.size
   obtain ⟨a8, k8, rfl, hf8, hg8⟩ := tDir.val Y27
   refine .p rfl rfl (.mv rfl) (.p rfl rfl (.extract rfl rfl) (.p rfl rfl (.extract rfl rfl) (.v rfl rfl (.alloc rfl rfl) ?_)))
   rintro _ wn8 ⟨rfl, N8⟩
   refine .s rfl (.storeAll (n := 2) rfl rfl rfl rfl rfl N8.blk rfl) ?_
   intro w8 P8
   have Y8 := N8.ext.then P8.ext (by rintro k rfl _; exact Nat.le_refl _)
   have zy8 := Y8.size
   have B8 := P8.blk
   clear P8 N8
   refine .p rfl rfl (.as rfl) (.nil (.code (.seq (.seq (.keep [(9, _), (8, _), (7, _), (6, _), (2, _)] ⟨rfl, rfl, rfl, rfl, rfl, trivial⟩ (.region ?_))))))
   refine .p rfl rfl (.mv rfl) (.p rfl rfl (.mv rfl) ?_)
   refine .case 31 rfl (fun c31 => ?_) (fun c31 => ?_)
   ·obtain ⟨_, _, e0, _⟩ := tDir.val (R22 c31)
    have g0 : y22.gen = (slotF d 0).gen := by simp [i64] at e0; exact e0.1
    refine .p rfl rfl (.mv rfl) (.p rfl rfl (.not rfl) (.p rfl rfl (.mv rfl) ?_))
    refine .case 34 rfl (fun c34 => ?_) (fun c34 => ?_)
    ·refine .skip rfl rfl (.skip rfl rfl (.skip rfl rfl (.skip rfl rfl (.skip rfl rfl (.p rfl rfl (.pickT rfl rfl) (.p rfl rfl (.pickT rfl rfl) (.nil (.code (.keep [(41, _), (9, _), (8, _), (6, _), (2, _)] ⟨rfl, rfl, rfl, rfl, rfl, trivial⟩ (.condT rfl (.seq (.keep [(6, _), (2, _)] ⟨rfl, rfl, trivial⟩ (.region ?_)))))))))))))
     refine .p rfl rfl (.loadA (n := 2) rfl rfl rfl rfl rfl (B6.ext (S := fun _ => False) (by repeat (first | exact Ext.refl _ | assumption | refine Ext.trans (by assumption) ?_)) (fun x => x)).cells) ?_
     refine .s rfl (.storeAll (n := 2) rfl rfl rfl rfl rfl (B2.ext (S := fun _ => False) (by repeat (first | exact Ext.refl _ | assumption | refine Ext.trans (by assumption) ?_)) (fun x => x)) rfl) ?_
     intro w9 P9
     refine .p rfl rfl (.as rfl) (.p rfl rfl (.as rfl) (.nil (.code ?_)))
     refine .retR (.cell (n := 2) rfl rfl rfl rfl rfl (P9.blk.cells) (.tmp rfl (.tmp rfl .nil))) ?_
     rw [mountR_0 hck c18 (ht22.1 c31) (fun h => by have h5 := ht27.2 h; rw [h5] at c34; cases c34)]
     exact ⟨_, rfl, tDir.mono (tDir.ext (tDir.ext0 (R22 c31) (by repeat (first | exact Ext.refl _ | assumption | refine Ext.trans (by assumption) ?_))) P9.ext (fun k hk _ e => by have hk : w11.heap.size ≤ k := hk; have e : k = w1.heap.size := e; omega)) (fun k hk _ => by have hk : w11.heap.size ≤ k := hk; show w.heap.size ≤ k; omega), (Ext.then (S := fun k => k = w1.heap.size) (by repeat (first | exact Ext.refl _ | assumption | refine Ext.trans (by assumption) ?_)) P9.ext (by rintro k rfl _; omega))⟩
    ·have h27 : t27 = true := by simpa using c34
     obtain ⟨_, _, e8, _⟩ := tDir.val (R27 h27)
     have g8 : y27.gen = (slotF d 8).gen := by simp [i64] at e8; exact e8.1
     refine .p rfl rfl (.fieldAddr rfl rfl rfl rfl) (.p rfl rfl (.load rfl rfl rfl ((B6.ext (S := fun _ => False) (by repeat (first | exact Ext.refl _ | assumption | refine Ext.trans (by assumption) ?_)) (fun x => x)).cell 0)) ?_)
     refine .p rfl rfl (.fieldAddr rfl rfl rfl rfl) (.p rfl rfl (.load rfl rfl rfl ((B8.ext (S := fun _ => False) (by repeat (first | exact Ext.refl _ | assumption | refine Ext.trans (by assumption) ?_)) (fun x => x)).cell 0)) ?_)
     refine .p rfl rfl (.ge rfl rfl) (.p rfl rfl (.pickF rfl rfl) (.p rfl rfl (.pickT rfl rfl) (.nil (.code (.keep [(41, _), (9, _), (8, _), (6, _), (2, _)] ⟨rfl, rfl, rfl, rfl, rfl, trivial⟩ ?_)))))
     refine .condD rfl (fun c41 => ?_) (fun c41 => ?_)
     ·refine .seq (.keep [(6, _), (2, _)] ⟨rfl, rfl, trivial⟩ (.region ?_))
      refine .p rfl rfl (.loadA (n := 2) rfl rfl rfl rfl rfl (B6.ext (S := fun _ => False) (by repeat (first | exact Ext.refl _ | assumption | refine Ext.trans (by assumption) ?_)) (fun x => x)).cells) ?_
      refine .s rfl (.storeAll (n := 2) rfl rfl rfl rfl rfl (B2.ext (S := fun _ => False) (by repeat (first | exact Ext.refl _ | assumption | refine Ext.trans (by assumption) ?_)) (fun x => x)) rfl) ?_
      intro w9 P9
      refine .p rfl rfl (.as rfl) (.p rfl rfl (.as rfl) (.nil (.code ?_)))
      refine .retR (.cell (n := 2) rfl rfl rfl rfl rfl (P9.blk.cells) (.tmp rfl (.tmp rfl .nil))) ?_
      rw [mountR_0 hck c18 (ht22.1 c31) (fun _ => by rw [← g0, ← g8]; exact c41)]
      exact ⟨_, rfl, tDir.mono (tDir.ext (tDir.ext0 (R22 c31) (by repeat (first | exact Ext.refl _ | assumption | refine Ext.trans (by assumption) ?_))) P9.ext (fun k hk _ e => by have hk : w11.heap.size ≤ k := hk; have e : k = w1.heap.size := e; omega)) (fun k hk _ => by have hk : w11.heap.size ≤ k := hk; show w.heap.size ≤ k; omega), (Ext.then (S := fun k => k = w1.heap.size) (by repeat (first | exact Ext.refl _ | assumption | refine Ext.trans (by assumption) ?_)) P9.ext (by rintro k rfl _; omega))⟩
     ·refine .skip (.code (.seq (.seq (.keep [(9, _), (8, _), (2, _)] ⟨rfl, rfl, rfl, trivial⟩ (.region ?_)))))
      refine .p rfl rfl (.mv rfl) (.nil (.code (.keep [(43, _), (8, _), (2, _)] ⟨rfl, rfl, rfl, trivial⟩ ?_)))
      refine .cond rfl (fun c43 => ?_) (fun c43 => ?_)
      ·refine .seq (.keep [(8, _), (2, _)] ⟨rfl, rfl, trivial⟩ (.region ?_))
       refine .p rfl rfl (.loadA (n := 2) rfl rfl rfl rfl rfl (B8.ext (S := fun _ => False) (by repeat (first | exact Ext.refl _ | assumption | refine Ext.trans (by assumption) ?_)) (fun x => x)).cells) ?_
       refine .s rfl (.storeAll (n := 2) rfl rfl rfl rfl rfl (B2.ext (S := fun _ => False) (by repeat (first | exact Ext.refl _ | assumption | refine Ext.trans (by assumption) ?_)) (fun x => x)) rfl) ?_
       intro w9 P9
       refine .p rfl rfl (.as rfl) (.p rfl rfl (.as rfl) (.nil (.code ?_)))
       refine .retR (.cell (n := 2) rfl rfl rfl rfl rfl (P9.blk.cells) (.tmp rfl (.tmp rfl .nil))) ?_
       rw [mountF_8 hck c18 (fun h => h.2 ⟨ht27.1 h27, by rw [← g0, ← g8]; omega⟩) (ht27.1 h27)]
       exact ⟨_, rfl, tDir.mono (tDir.ext (tDir.ext0 (R27 h27) (by repeat (first | exact Ext.refl _ | assumption | refine Ext.trans (by assumption) ?_))) P9.ext (fun k hk _ e => by have hk : w6.heap.size ≤ k := hk; have e : k = w1.heap.size := e; omega)) (fun k hk _ => by have hk : w6.heap.size ≤ k := hk; show w.heap.size ≤ k; omega), (Ext.then (S := fun k => k = w1.heap.size) (by repeat (first | exact Ext.refl _ | assumption | refine Ext.trans (by assumption) ?_)) P9.ext (by rintro k rfl _; omega))⟩
      ·refine .skip (.code (.seq (.keep [(2, _)] ⟨rfl, trivial⟩ (.region ?_))))
       refine .p rfl rfl (.build (cs := [i64 0, .slice none 0 0]) rfl (fun _ => by kernel_rfl)) (.s rfl (.storeAll (n := 2) rfl rfl rfl rfl rfl (B2.ext (S := fun _ => False) (by repeat (first | exact Ext.refl _ | assumption | refine Ext.trans (by assumption) ?_)) (fun x => x)) rfl) ?_)
       intro w9 P9
       refine .p rfl rfl (.as rfl) (.p rfl rfl (.as rfl) (.nil (.code ?_)))
       refine .retR (.cell (n := 2) rfl rfl rfl rfl rfl (P9.blk.cells) (.tmp rfl (.tmp rfl .nil))) ?_
       rw [h27] at c43; cases c43
   ·refine .skip rfl rfl (.skip rfl rfl (.skip rfl rfl (.skip rfl rfl (.skip rfl rfl (.skip rfl rfl (.skip rfl rfl (.skip rfl rfl (.skip rfl rfl (.p rfl rfl (.pickF rfl rfl) (.nil (.code (.keep [(41, _), (9, _), (8, _), (6, _), (2, _)] ⟨rfl, rfl, rfl, rfl, rfl, trivial⟩ (.condF rfl (.skip (.code (.seq (.seq (.keep [(9, _), (8, _), (2, _)] ⟨rfl, rfl, rfl, trivial⟩ (.region ?_)))))))))))))))))))
    refine .p rfl rfl (.mv rfl) (.nil (.code (.keep [(43, _), (8, _), (2, _)] ⟨rfl, rfl, rfl, trivial⟩ ?_)))
    refine .cond rfl (fun c43 => ?_) (fun c43 => ?_)
    ·refine .seq (.keep [(8, _), (2, _)] ⟨rfl, rfl, trivial⟩ (.region ?_))
     refine .p rfl rfl (.loadA (n := 2) rfl rfl rfl rfl rfl (B8.ext (S := fun _ => False) (by repeat (first | exact Ext.refl _ | assumption | refine Ext.trans (by assumption) ?_)) (fun x => x)).cells) ?_
     refine .s rfl (.storeAll (n := 2) rfl rfl rfl rfl rfl (B2.ext (S := fun _ => False) (by repeat (first | exact Ext.refl _ | assumption | refine Ext.trans (by assumption) ?_)) (fun x => x)) rfl) ?_
     intro w9 P9
     refine .p rfl rfl (.as rfl) (.p rfl rfl (.as rfl) (.nil (.code ?_)))
     refine .retR (.cell (n := 2) rfl rfl rfl rfl rfl (P9.blk.cells) (.tmp rfl (.tmp rfl .nil))) ?_
     rw [mountF_8 hck c18 (fun h => (fun h => by have h := ht22.2 h; rw [c31] at h; cases h) h.1) (ht27.1 c43)]
     exact ⟨_, rfl, tDir.mono (tDir.ext (tDir.ext0 (R27 c43) (by repeat (first | exact Ext.refl _ | assumption | refine Ext.trans (by assumption) ?_))) P9.ext (fun k hk _ e => by have hk : w6.heap.size ≤ k := hk; have e : k = w1.heap.size := e; omega)) (fun k hk _ => by have hk : w6.heap.size ≤ k := hk; show w.heap.size ≤ k; omega), (Ext.then (S := fun k => k = w1.heap.size) (by repeat (first | exact Ext.refl _ | assumption | refine Ext.trans (by assumption) ?_)) P9.ext (by rintro k rfl _; omega))⟩
    ·refine .skip (.code (.seq (.keep [(2, _)] ⟨rfl, trivial⟩ (.region ?_))))
     refine .p rfl rfl (.build (cs := [i64 0, .slice none 0 0]) rfl (fun _ => by kernel_rfl)) (.s rfl (.storeAll (n := 2) rfl rfl rfl rfl rfl (B2.ext (S := fun _ => False) (by repeat (first | exact Ext.refl _ | assumption | refine Ext.trans (by assumption) ?_)) (fun x => x)) rfl) ?_)
     intro w9 P9
     refine .p rfl rfl (.as rfl) (.p rfl rfl (.as rfl) (.nil (.code ?_)))
     refine .retR (.cell (n := 2) rfl rfl rfl rfl rfl (P9.blk.cells) (.tmp rfl (.tmp rfl .nil))) ?_
     rw [mountF_40 hck c18 (fun h => by have h := ht22.2 h; rw [c31] at h; cases h) (fun h => by have h := ht27.2 h; rw [c43] at h; cases h)]
     exact ⟨_, rfl, nil_dir, (Ext.then (S := fun k => k = w1.heap.size) (by repeat (first | exact Ext.refl _ | assumption | refine Ext.trans (by assumption) ?_)) P9.ext (by rintro k rfl _; omega))⟩
theorem refMount_fn {w : World} {v : Value} {d : Disk} (h : disk.tDisk.rep All w v d) : Fn Tryz.prog 31 [v] w (fun r w2 => ∃ u, r = .tuple #[u, i64 (mountF d).2.2] ∧ tDir.rep (fun k => w.heap.size ≤ k) w2 u (mountF d).1 ∧ Ext (fun _ => False) w w2) := by
 have h0 := h
 obtain ⟨u, u', rfl, hd1, hd2, hdc⟩ := disk.tDisk.val h
 obtain ⟨a1, k1, rfl, _⟩ := Sl.val hd1
 obtain ⟨a2, k2, rfl, _⟩ := Sl.val hd2
 refine Fn.enter (fun w => Tryz.call31 _ w) Tryz.func31 rfl ?_
 refine .seq (.region ?_)
 refine .v rfl rfl (.box rfl) ?_
 rintro _ w1 ⟨rfl, N1⟩
 have B1 := N1.blk
 have X1 := N1.ext
 have z1 := N1.size
 refine .v rfl rfl (.alloc rfl rfl) ?_
 rintro _ w2 ⟨rfl, N2⟩
 have B2 := N2.blk
 have X2 := N2.ext
 have z2 : w2.heap.size = w1.heap.size + 1 := N2.size
 refine .p rfl rfl (.as rfl) (.nil (.code (.seq (.keep [(2, _), (1, _)] ⟨rfl, rfl, trivial⟩ (.region ?_)))))
 refine .p rfl rfl (.loadA (n := 3) rfl rfl rfl rfl rfl (B1.ext (S := fun _ => False) (by repeat (first | exact Ext.refl _ | assumption | refine Ext.trans (by assumption) ?_)) (fun x => x)).cells) ?_
 refine .call (first := []) (captured := []) rfl rfl rfl rfl (refMounted_fn (disk.tDisk.ext0 h0 (by repeat (first | exact Ext.refl _ | assumption | refine Ext.trans (by assumption) ?_)))) ?_
 rintro _ w9 ⟨u9, rfl, R9, X9⟩
 have z9 := X9.size
 obtain ⟨a4, k4, rfl, hf4, hg4⟩ := tDir.val R9
 refine .p rfl rfl (.mv rfl) (.p rfl rfl (.extract rfl rfl) (.p rfl rfl (.extract rfl rfl) (.p rfl rfl (.extract rfl rfl) (.v rfl rfl (.alloc rfl rfl) ?_))))
 rintro _ wn4 ⟨rfl, N4⟩
 refine .s rfl (.storeAll (n := 2) rfl rfl rfl rfl rfl N4.blk rfl) ?_
 intro w4 P4
 have Y4 := N4.ext.then P4.ext (by rintro k rfl _; exact Nat.le_refl _)
 have zy4 := Y4.size
 have B4 := P4.blk
 clear P4 N4
 refine .p rfl rfl (.as rfl) (.p rfl rfl (.as rfl) (.nil (.code (.seq (.keep [(6, _), (4, _), (2, _)] ⟨rfl, rfl, rfl, trivial⟩ (.region ?_))))))
 refine .p rfl rfl (.loadA (n := 2) rfl rfl rfl rfl rfl (B4.ext (S := fun _ => False) (by repeat (first | exact Ext.refl _ | assumption | refine Ext.trans (by assumption) ?_)) (fun x => x)).cells) ?_
 refine .p rfl rfl (.mv rfl) (.s rfl (.storeAll (n := 2) rfl rfl rfl rfl rfl (B2.ext (S := fun _ => False) (by repeat (first | exact Ext.refl _ | assumption | refine Ext.trans (by assumption) ?_)) (fun x => x)) rfl) ?_)
 intro w5 P5
 refine .p rfl rfl (.as rfl) (.nil (.code ?_))
 refine .retR (.cell (n := 2) rfl rfl rfl rfl rfl (P5.blk.cells) (.tmp rfl .nil)) ?_
 refine ⟨_, rfl, tDir.mono (tDir.ext (tDir.ext0 R9 (by repeat (first | exact Ext.refl _ | assumption | refine Ext.trans (by assumption) ?_))) P5.ext (fun k hk _ e => by have hk : w2.heap.size ≤ k := hk; have e : k = w1.heap.size := e; omega)) (fun k hk _ => by have hk : w2.heap.size ≤ k := hk; show w.heap.size ≤ k; omega), Ext.then (S := fun k => k = w1.heap.size) (by repeat (first | exact Ext.refl _ | assumption | refine Ext.trans (by assumption) ?_)) P5.ext (by rintro k rfl _; omega)⟩
end Go.Proofs.YtpfehnopghffjaaGreatDoor
namespace Go.Proofs.YtpfehnopghffjaaGreatDoor
open Go
open room files
namespace files
theorem insF_all {f : File} : ∀ {l : List File}, (∀ g ∈ l, ¬ Op.bytesLess f.name g.name = true) → insF l f = l ++ [f]
 | [], _ => rfl
 | g :: l, h => by rw [insF, if_neg (h g (by simp)), insF_all (fun x hx => h x (by simp [hx]))]; rfl
theorem insF_mid {f g : File} (hg : Op.bytesLess f.name g.name = true) : ∀ {l : List File}, (∀ x ∈ l, ¬ Op.bytesLess f.name x.name = true) → insF (l ++ [g]) f = l ++ [f] ++ [g]
 | [], _ => by show insF [g] f = _; rw [insF, if_pos hg]; rfl
 | x :: l, h => by show insF (x :: (l ++ [g])) f = _; rw [insF, if_neg (h x (by simp)), insF_mid hg (fun y hy => h y (by simp [hy]))]; rfl
theorem insF_app {f g : File} : ∀ {l : List File}, (∃ x ∈ l, Op.bytesLess f.name x.name = true) → insF (l ++ [g]) f = insF l f ++ [g]
 | [], h => by obtain ⟨x, hx, _⟩ := h; cases hx
 | x :: l, h => by
  show insF (x :: (l ++ [g])) f = _
  by_cases hx : Op.bytesLess f.name x.name = true
  ·rw [insF, insF, if_pos hx, if_pos hx]; rfl
  ·rw [insF, insF, if_neg hx, if_neg hx, insF_app (by obtain ⟨y, hy, h2⟩ := h; rcases List.mem_cons.1 hy with rfl | hy; exact absurd h2 hx; exact ⟨y, hy, h2⟩)]; rfl
theorem mem_step {l : List File} {i : Nat} (hi : i < l.length) {g : File} : g ∈ l.take (i + 1) ↔ g ∈ l.take i ∨ g = l[i] := by
 rw [List.take_succ_eq_append_getElem hi, List.mem_append, List.mem_singleton]
end files
theorem Ev.gtS4 {P : Program} {e : Env} {w : World} {x y : Operand} {T T' : TypeId} {a b : Bs} (hx : look e x = some (str a)) (hy : look e y = some (str b)) : Ev P e (.binOp .gtr T x y T') w (.bool (Op.bytesLess b a)) :=
 fun w' _ ρ hρ o ho => by
  have h1 : (bs a).toList = a := bs_toList a
  have h2 : (bs b).toList = b := bs_toList b
  simp [execOp, ho, hρ _ _ hx, hρ _ _ hy, eqGuard, binOp, Op.stringOp, h1, h2]
  rcases bl_tri a b with h | h | h
  ·simp [h, bl_asymm h]
  ·subst h; simp [bl_irr a]
  ·have h3 : ¬ a = b := fun e => by subst e; exact bl_irr a h
   simp [h, bl_asymm h, h3]
attribute [local irreducible] readD slotB slotF mountF slotOK checkR disk.readF findTo findF writeF nameF sectE bytesF genTo
theorem refPlace_fn {w : World} {v : Value} {x : Dir} {nm : Bs} (h : tDir.rep All w v x) : Fn Tryz.prog 71 [v, str nm] w (fun r w2 => r = i64 (findF x nm) ∧ Ext (fun _ => False) w w2) := by
 obtain ⟨a, cap, rfl, hf, hg⟩ := tDir.val h
 have hlim := Sl.lim hf
 simp only [Lim] at hlim
 refine Fn.enter (fun w => Tryz.call71 _ w) Tryz.func71 rfl ?_
 refine .seq (.region ?_)
 refine .v rfl rfl (.box rfl) ?_
 rintro _ w2 ⟨rfl, N2⟩
 have B2 := N2.blk
 have X2 := N2.ext
 have z2 := N2.size
 refine .p rfl rfl (.as rfl) (.nil (.code (.seq (.seq (.keep [(2, _), (1, _)] ⟨rfl, rfl, trivial⟩ (.region ?_))))))
 refine .p rfl rfl (.as rfl) (.nil (.code (.block ?_)))
 refine .loop (S := Nat) (fun s => [(1, str nm), (2, .pointer (some ⟨w.heap.size, 0, none⟩)), (5, i64 s)]) (fun s => w2) (fun s => s ≤ x.fs.length ∧ ∀ j (h : j < x.fs.length), j < s → ¬ x.fs[j].name = nm) (fun s => x.fs.length - s) 0 ⟨rfl, rfl, rfl, trivial⟩ rfl ⟨Nat.zero_le _, fun j _ h => absurd h (Nat.not_lt_zero _)⟩ ?_
 rintro i J ⟨hi', hn⟩ again
 refine .seq (.seq (.region ?_))
 refine .p rfl rfl (.mv rfl) (.p rfl rfl (.fieldAddr rfl rfl rfl rfl) (.p rfl rfl (.load rfl rfl rfl ((B2.ext (S := fun _ => False) (by repeat (first | exact Ext.refl _ | assumption | refine Ext.trans (by assumption) ?_)) (fun x => x)).cell 1)) ?_))
 refine .p rfl rfl (.len rfl rfl) (.p rfl rfl (.lt rfl rfl) (.nil (.code (.keep [(10, _), (1, _), (2, _), (5, _)] ⟨rfl, rfl, rfl, rfl, trivial⟩ ?_))))
 refine .condD rfl (fun c10 => ?_) (fun c10 => ?_)
 ·have hi : i < x.fs.length := by omega
  obtain ⟨b1, o1, q1, ue1, e1, _, hcs, hre⟩ := Sl.at hf (List.getElem?_eq_getElem hi)
  cases e1
  obtain ⟨fa1, fc1, rfl, hps, hnm, hsz⟩ := tFile.val hre
  refine .skip (.code (.seq (.block (.seq (.keep [(1, _), (2, _), (5, _)] ⟨rfl, rfl, rfl, trivial⟩ (.region ?_))))))
  refine .p rfl rfl (.fieldAddr rfl rfl rfl rfl) (.p rfl rfl (.load rfl rfl rfl ((B2.ext (S := fun _ => False) (by repeat (first | exact Ext.refl _ | assumption | refine Ext.trans (by assumption) ?_)) (fun x => x)).cell 1)) ?_)
  refine .p rfl rfl (.mv rfl) (.p rfl rfl (.indexAddr (s := 3) rfl rfl rfl rfl (by omega)) (.p rfl rfl (.fieldAddr rfl rfl rfl rfl) (.p rfl rfl (.load rfl rfl rfl ((hcs.ext (S := fun _ => False) (by repeat (first | exact Ext.refl _ | assumption | refine Ext.trans (by assumption) ?_)) (fun x => x)) 0 _ rfl)) ?_)))
  refine .p rfl rfl (.mv rfl) (.p rfl rfl (.eqS rfl rfl) (.nil (.code (.keep [(20, _), (1, _), (2, _), (5, _)] ⟨rfl, rfl, rfl, rfl, trivial⟩ ?_))))
  refine .condD rfl (fun c20 => ?_) (fun c20 => ?_)
  ·refine .seq (.keep [(5, _)] ⟨rfl, trivial⟩ (.region ?_))
   refine .p rfl rfl (.mv rfl) (.p rfl rfl (.as rfl) (.nil (.code ?_)))
   refine .ret _ rfl ?_
   refine ⟨?_, (by repeat (first | exact Ext.refl _ | assumption | refine Ext.trans (by assumption) ?_))⟩
   rw [findF_at hi (fun j hj => hn j (by omega) hj) c20]
   rfl
  ·refine .skip (.blk (.code (.keep [(1, _), (2, _), (5, _)] ⟨rfl, rfl, rfl, trivial⟩ (.region ?_))))
   refine .p rfl rfl (.mv rfl) (.p rfl rfl (.add rfl rfl (by omega)) (.p rfl rfl (.as rfl) (.nil ?_)))
   refine (again (i + 1) ⟨by show i + 1 ≤ _; omega, fun j hj h1 => ?_⟩ (by show _ - (i + 1) < _ - i; omega)).of ⟨rfl, rfl, rfl, trivial⟩
   rcases Nat.lt_or_ge j i with h2 | h2
   ·exact hn j hj h2
   ·have h1 : j < i + 1 := h1
    obtain rfl : j = i := by omega
    exact c20
 ·obtain rfl : i = x.fs.length := by omega
  refine .exit rfl (.code (.seq (.keep [] trivial (.region ?_))))
  refine .p rfl rfl (.as rfl) (.nil (.code ?_))
  refine .ret _ rfl ?_
  refine ⟨?_, (by repeat (first | exact Ext.refl _ | assumption | refine Ext.trans (by assumption) ?_))⟩
  rw [findF_no (fun f hf => by obtain ⟨j, hj, rfl⟩ := List.getElem_of_mem hf; exact hn j hj hj)]
  rfl
theorem refNamed_fn {w : World} {v : Value} {l : List Change} {nm : Bs} (h : (Sl tree.tChange).rep All w v l) : Fn Tryz.prog 97 [v, str nm] w (fun r w2 => ∃ t, r = .bool t ∧ (t = true ↔ nm ∈ l.map (·.key)) ∧ Ext (fun _ => False) w w2) := by
 obtain ⟨a, cap, rfl, _⟩ := Sl.val h
 have hlim := Sl.lim h
 simp only [Lim] at hlim
 refine Fn.enter (fun w => Tryz.call97 _ w) Tryz.func97 rfl ?_
 refine .seq (.region ?_)
 refine .p rfl rfl (.as rfl) (.nil (.code (.seq (.seq (.keep [(0, _), (1, _)] ⟨rfl, rfl, trivial⟩ (.region ?_))))))
 refine .p rfl rfl (.as rfl) (.nil (.code (.block ?_)))
 refine .loop (S := Nat) (fun s => [(0, .slice a l.length cap), (1, str nm), (5, i64 s)]) (fun s => w) (fun s => s ≤ l.length ∧ ∀ j (h : j < l.length), j < s → ¬ l[j].key = nm) (fun s => l.length - s) 0 ⟨rfl, rfl, rfl, trivial⟩ rfl ⟨Nat.zero_le _, fun j _ h => absurd h (Nat.not_lt_zero _)⟩ ?_
 rintro i J ⟨hi', hn⟩ again
 refine .seq (.seq (.region ?_))
 refine .p rfl rfl (.mv rfl) (.p rfl rfl (.mv rfl) (.p rfl rfl (.len rfl rfl) (.p rfl rfl (.lt rfl rfl) (.nil (.code (.keep [(9, _), (0, _), (1, _), (5, _)] ⟨rfl, rfl, rfl, rfl, trivial⟩ ?_))))))
 refine .condD rfl (fun c9 => ?_) (fun c9 => ?_)
 ·have hi : i < l.length := by omega
  obtain ⟨bc, oc, qc, uec, ec, _, hcc, hrc⟩ := Sl.at h (List.getElem?_eq_getElem hi)
  cases ec
  obtain ⟨rfl, hkey, hval⟩ := tree.tChange.val hrc
  refine .skip (.code (.seq (.block (.seq (.keep [(0, _), (1, _), (5, _)] ⟨rfl, rfl, rfl, trivial⟩ (.region ?_))))))
  refine .p rfl rfl (.mv rfl) (.p rfl rfl (.mv rfl) (.p rfl rfl (.indexAddr (s := 3) rfl rfl rfl rfl (by omega)) (.p rfl rfl (.fieldAddr rfl rfl rfl rfl) (.p rfl rfl (.load rfl rfl rfl (hcc 0 _ rfl)) (.p rfl rfl (.mv rfl) (.p rfl rfl (.eqS rfl rfl) (.nil (.code (.keep [(18, _), (0, _), (1, _), (5, _)] ⟨rfl, rfl, rfl, rfl, trivial⟩ ?_)))))))))
  refine .condD rfl (fun c18 => ?_) (fun c18 => ?_)
  ·refine .seq (.keep [] trivial (.region ?_))
   refine .p rfl rfl (.as rfl) (.nil (.code ?_))
   refine .ret _ rfl ?_
   exact ⟨_, rfl, ⟨fun _ => List.mem_map.2 ⟨_, List.getElem_mem hi, c18⟩, fun _ => rfl⟩, .refl _⟩
  ·refine .skip (.blk (.code (.keep [(0, _), (1, _), (5, _)] ⟨rfl, rfl, rfl, trivial⟩ (.region ?_))))
   refine .p rfl rfl (.mv rfl) (.p rfl rfl (.add rfl rfl (by omega)) (.p rfl rfl (.as rfl) (.nil ?_)))
   refine (again (i + 1) ⟨by show i + 1 ≤ _; omega, fun j hj h1 => ?_⟩ (by show _ - (i + 1) < _ - i; omega)).of ⟨rfl, rfl, rfl, trivial⟩
   rcases Nat.lt_or_ge j i with h2 | h2
   ·exact hn j hj h2
   ·have h1 : j < i + 1 := h1
    obtain rfl : j = i := by omega
    exact c18
 ·obtain rfl : i = l.length := by omega
  refine .exit rfl (.code (.seq (.keep [] trivial (.region ?_))))
  refine .p rfl rfl (.as rfl) (.nil (.code ?_))
  refine .ret _ rfl ?_
  exact ⟨_, rfl, ⟨fun h => (by cases h), fun hm => by obtain ⟨y, hy, he⟩ := List.mem_map.1 hm; obtain ⟨j, hj, rfl⟩ := List.getElem_of_mem hy; exact absurd he (hn j hj hj)⟩, .refl _⟩
theorem refWrong_fn {w : World} {v vl : Value} {x : Dir} {l : List Change} (h : tDir.rep All w v x) (hl : (Sl tree.tChange).rep All w vl l) : Fn Tryz.prog 96 [v, vl] w (fun r w2 => r = i64 (wrongF x l) ∧ Ext (fun _ => False) w w2) := by
 have h0 := h
 obtain ⟨a, cap, rfl, hf, hg⟩ := tDir.val h
 obtain ⟨al, kl, rfl, hkl⟩ := Sl.val hl
 refine Fn.enter (fun w => Tryz.call96 _ w) Tryz.func96 rfl ?_
 refine .seq (.region ?_)
 refine .v rfl rfl (.box rfl) ?_
 rintro _ w2 ⟨rfl, N2⟩
 have B2 := N2.blk
 have X2 := N2.ext
 have z2 := N2.size
 refine .p rfl rfl (.as rfl) (.nil (.code (.seq (.seq (.keep [(2, _), (1, _)] ⟨rfl, rfl, trivial⟩ (.region ?_))))))
 refine .p rfl rfl (.mv rfl) (.p rfl rfl (.len rfl rfl) (.p rfl rfl (.gt rfl rfl) (.nil (.code (.keep [(8, _), (2, _), (1, _)] ⟨rfl, rfl, rfl, trivial⟩ ?_)))))
 refine .condD rfl (fun c8 => ?_) (fun c8 => ?_)
 ·refine .seq (.keep [] trivial (.region ?_))
  refine .p rfl rfl (.as rfl) (.nil (.code ?_))
  refine .ret _ rfl ?_
  rw [show wrongF x l = 4 by unfold wrongF; rw [if_pos (by omega)]]
  exact ⟨rfl, (by repeat (first | exact Ext.refl _ | assumption | refine Ext.trans (by assumption) ?_))⟩
 ·refine .skip (.code (.seq (.seq (.keep [(2, _), (1, _)] ⟨rfl, rfl, trivial⟩ (.region ?_)))))
  refine .p rfl rfl (.as rfl) (.nil (.code (.block ?_)))
  refine .loop (S := Nat × World) (fun s => [(1, .slice al l.length kl), (2, .pointer (some ⟨w.heap.size, 0, none⟩)), (5, i64 s.1)]) (fun s => s.2) (fun s => s.1 ≤ l.length ∧ chgW x [] l = chgW x ((l.take s.1).map (·.key)) (l.drop s.1) ∧ Ext (fun _ => False) w2 s.2) (fun s => l.length - s.1) (0, w2) ⟨rfl, rfl, rfl, trivial⟩ rfl ⟨Nat.zero_le _, rfl, .refl _⟩ ?_
  rintro ⟨i, wi⟩ J ⟨hi', hch, hX⟩ again
  simp only at hi' hch hX
  have zi := hX.size
  change G _ [(1, .slice al l.length kl), (2, .pointer (some ⟨w.heap.size, 0, none⟩)), (5, i64 i)] _ _ wi
  refine .seq (.seq (.region ?_))
  refine .p rfl rfl (.mv rfl) (.p rfl rfl (.mv rfl) (.p rfl rfl (.len rfl rfl) (.p rfl rfl (.lt rfl rfl) (.nil (.code (.keep [(12, _), (1, _), (2, _), (5, _)] ⟨rfl, rfl, rfl, rfl, trivial⟩ ?_))))))
  refine .condD rfl (fun c12 => ?_) (fun c12 => ?_)
  ·have hi : i < l.length := by omega
   obtain ⟨a24, c24, hv24, _, R24⟩ := Sl.cutE hl 0 i (by omega) (by omega)
   rw [List.drop_zero] at R24
   obtain ⟨bc, oc, qc, uec, ec, _, hcc, hrc⟩ := Sl.at hl (List.getElem?_eq_getElem hi)
   cases ec
   obtain ⟨rfl, hkey, hval⟩ := tree.tChange.val hrc
   refine .skip (.code (.seq (.block (.seq (.seq (.keep [(1, _), (2, _), (5, _)] ⟨rfl, rfl, rfl, trivial⟩ (.region ?_)))))))
   refine .p rfl rfl (.mv rfl) (.p rfl rfl (.mv rfl) (.p rfl rfl (.indexAddr (s := 3) rfl rfl rfl rfl (by omega)) (.p rfl rfl (.fieldAddr rfl rfl rfl rfl) (.p rfl rfl (.load rfl rfl rfl ((hcc.ext (S := fun _ => False) (by repeat (first | exact Ext.refl _ | assumption | refine Ext.trans (by assumption) ?_)) (fun x => x)) 0 _ rfl)) ?_))))
   refine .call (first := []) (captured := []) rfl rfl rfl rfl (RefIsName_fn hkey) ?_
   rintro _ w20 ⟨rfl, X20⟩
   have z20 := X20.size
   refine .p rfl rfl (.not rfl) (.nil (.code (.keep [(21, _), (1, _), (2, _), (5, _)] ⟨rfl, rfl, rfl, rfl, trivial⟩ ?_)))
   refine .cond rfl (fun c21 => ?_) (fun c21 => ?_)
   ·refine .seq (.keep [] trivial (.region ?_))
    refine .p rfl rfl (.as rfl) (.nil (.code ?_))
    refine .ret _ rfl ?_
    rw [show wrongF x l = chgW x [] l by unfold wrongF; rw [if_neg (by omega)]]
    rw [chgW_err hi hch (e := 5) (by unfold oneW; rw [if_pos (by simpa using c21)]) (by decide)]
    exact ⟨rfl, (by repeat (first | exact Ext.refl _ | assumption | refine Ext.trans (by assumption) ?_))⟩
   ·refine .skip (.code (.seq (.seq (.keep [(1, _), (2, _), (5, _)] ⟨rfl, rfl, rfl, trivial⟩ (.mix (fun _ => False) [8] (by kernel_rfl) (by kernel_rfl) (by kernel_rfl) ?_)))))
    refine .p rfl rfl rfl (fun wx hx => .mv rfl) (.p rfl rfl rfl (fun wx hx => .mv rfl) (.p rfl rfl rfl (fun wx hx => .cast (.cutHi (s := 3) rfl rfl rfl rfl (by omega)) (show cutV 3 _ _ 0 (i : Int).toNat = .slice a24 (i - 0) c24 by rw [Int.toNat_natCast]; exact hv24)) (.p rfl rfl rfl (fun wx hx => .mv rfl) (.p rfl rfl rfl (fun wx hx => .mv rfl) (.p rfl rfl rfl (fun wx hx => .indexAddr (s := 3) rfl rfl rfl rfl (by omega)) (.p rfl rfl rfl (fun wx hx => .fieldAddr rfl rfl rfl rfl) (.p rfl rfl rfl (fun wx hx => .load rfl rfl rfl ((hcc.ext (S := fun _ => False) (Ext.trans (by repeat (first | exact Ext.refl _ | assumption | refine Ext.trans (by assumption) ?_)) hx) (fun x => x)) 0 _ rfl)) ?_)))))))
    refine .call (first := []) (captured := []) rfl rfl rfl rfl rfl (refNamed_fn (l := l.take i) (nm := l[i].key) ((Sl tree.tChange).ext0 R24 (by repeat (first | exact Ext.refl _ | assumption | refine Ext.trans (by assumption) ?_)))) (by rintro _ _ ⟨_, _, _, hx⟩; exact hx) ?_
    rintro _ w30 ⟨t30, rfl, ht30, X30⟩
    have z30 := X30.size
    refine .nil (.code (.keep [(30, _), (1, _), (2, _), (5, _)] ⟨rfl, rfl, rfl, rfl, trivial⟩ ?_))
    refine .cond rfl (fun c30 => ?_) (fun c30 => ?_)
    ·refine .seq (.keep [] trivial (.region ?_))
     refine .p rfl rfl (.as rfl) (.nil (.code ?_))
     refine .ret _ rfl ?_
     rw [show wrongF x l = chgW x [] l by unfold wrongF; rw [if_neg (by omega)]]
     rw [chgW_err hi hch (e := 8) (by unfold oneW; rw [if_neg (by simpa using c21), if_pos (ht30.1 c30)]) (by decide)]
     exact ⟨rfl, (by repeat (first | exact Ext.refl _ | assumption | refine Ext.trans (by assumption) ?_))⟩
    ·refine .skip (.code (.seq (.keep [(1, _), (2, _), (5, _)] ⟨rfl, rfl, rfl, trivial⟩ (.mix (fun _ => False) [12] (by kernel_rfl) (by kernel_rfl) (by kernel_rfl) ?_))))
     refine .p rfl rfl rfl (fun wx hx => .mv rfl) (.p rfl rfl rfl (fun wx hx => .mv rfl) (.p rfl rfl rfl (fun wx hx => .indexAddr (s := 3) rfl rfl rfl rfl (by omega)) (.p rfl rfl rfl (fun wx hx => .fieldAddr rfl rfl rfl rfl) (.p rfl rfl rfl (fun wx hx => .load rfl rfl rfl ((hcc.ext (S := fun _ => False) (Ext.trans (by repeat (first | exact Ext.refl _ | assumption | refine Ext.trans (by assumption) ?_)) hx) (fun x => x)) 2 _ rfl)) ?_))))
     refine .p rfl rfl rfl (fun wx hx => .mv rfl) ?_
     refine .case 36 rfl (fun c36 => ?_) (fun c36 => ?_)
     ·refine .p rfl rfl rfl (fun wx hx => .loadA (n := 2) rfl rfl rfl rfl rfl (B2.ext (S := fun _ => False) (Ext.trans (by repeat (first | exact Ext.refl _ | assumption | refine Ext.trans (by assumption) ?_)) hx) (fun x => x)).cells) ?_
      refine .p rfl rfl rfl (fun wx hx => .mv rfl) (.p rfl rfl rfl (fun wx hx => .mv rfl) (.p rfl rfl rfl (fun wx hx => .indexAddr (s := 3) rfl rfl rfl rfl (by omega)) (.p rfl rfl rfl (fun wx hx => .fieldAddr rfl rfl rfl rfl) (.p rfl rfl rfl (fun wx hx => .load rfl rfl rfl ((hcc.ext (S := fun _ => False) (Ext.trans (by repeat (first | exact Ext.refl _ | assumption | refine Ext.trans (by assumption) ?_)) hx) (fun x => x)) 0 _ rfl)) ?_))))
      refine .call (first := []) (captured := []) rfl rfl rfl rfl rfl (refPlace_fn (x := x) (nm := l[i].key) (tDir.ext0 h0 (by repeat (first | exact Ext.refl _ | assumption | refine Ext.trans (by assumption) ?_)))) (by rintro _ _ ⟨_, hx⟩; exact hx) ?_
      rintro _ w43 ⟨rfl, X43⟩
      have z43 := X43.size
      refine .p rfl rfl rfl (fun wx hx => .lt rfl rfl) (.p rfl rfl rfl (fun wx hx => .pickT rfl rfl) (.nil (.code (.keep [(45, _), (1, _), (2, _), (5, _)] ⟨rfl, rfl, rfl, rfl, trivial⟩ ?_))))
      refine .condD rfl (fun c45 => ?_) (fun c45 => ?_)
      ·refine .seq (.keep [] trivial (.region ?_))
       refine .p rfl rfl (.as rfl) (.nil (.code ?_))
       refine .ret _ rfl ?_
       rw [show wrongF x l = chgW x [] l by unfold wrongF; rw [if_neg (by omega)]]
       rw [chgW_err hi hch (e := 6) (by unfold oneW; rw [if_neg (by simpa using c21), if_neg (fun h => by rw [ht30.2 h] at c30; cases c30), if_pos ⟨c36, c45⟩]) (by decide)]
       exact ⟨rfl, (by repeat (first | exact Ext.refl _ | assumption | refine Ext.trans (by assumption) ?_))⟩
      ·refine .skip (.blk (.code (.keep [(1, _), (2, _), (5, _)] ⟨rfl, rfl, rfl, trivial⟩ (.region ?_))))
       refine .p rfl rfl (.mv rfl) (.p rfl rfl (.add rfl rfl (by omega)) (.p rfl rfl (.as rfl) (.nil ?_)))
       exact (again (i + 1, w43) ⟨by show i + 1 ≤ _; omega, by show _ = _; rw [chgW_ok hi hch (by unfold oneW; rw [if_neg (by simpa using c21), if_neg (fun h => by rw [ht30.2 h] at c30; cases c30), if_neg (fun h => c45 h.2)]), keysC_step hi], (by repeat (first | exact Ext.refl _ | assumption | refine Ext.trans (by assumption) ?_))⟩ (by show _ - (i + 1) < _ - i; omega)).of ⟨rfl, rfl, rfl, trivial⟩
     ·refine .skip rfl rfl (.skip rfl rfl (.skip rfl rfl (.skip rfl rfl (.skip rfl rfl (.skip rfl rfl (.skip rfl rfl (.skip rfl rfl (.p rfl rfl rfl (fun wx hx => .pickF rfl rfl) (.nil (.code (.keep [(45, _), (1, _), (2, _), (5, _)] ⟨rfl, rfl, rfl, rfl, trivial⟩ (.condF rfl (.skip (.blk (.code (.keep [(1, _), (2, _), (5, _)] ⟨rfl, rfl, rfl, trivial⟩ (.region ?_)))))))))))))))))
      refine .p rfl rfl (.mv rfl) (.p rfl rfl (.add rfl rfl (by omega)) (.p rfl rfl (.as rfl) (.nil ?_)))
      exact (again (i + 1, w30) ⟨by show i + 1 ≤ _; omega, by show _ = _; rw [chgW_ok hi hch (by unfold oneW; rw [if_neg (by simpa using c21), if_neg (fun h => by rw [ht30.2 h] at c30; cases c30), if_neg (fun h => by rw [h.1] at c36; cases c36)]), keysC_step hi], (by repeat (first | exact Ext.refl _ | assumption | refine Ext.trans (by assumption) ?_))⟩ (by show _ - (i + 1) < _ - i; omega)).of ⟨rfl, rfl, rfl, trivial⟩
  ·obtain rfl : i = l.length := by omega
   refine .exit rfl (.code (.seq (.keep [] trivial (.region ?_))))
   refine .p rfl rfl (.as rfl) (.nil (.code ?_))
   refine .ret _ rfl ?_
   rw [show wrongF x l = chgW x [] l by unfold wrongF; rw [if_neg (by omega)]]
   rw [List.drop_length] at hch
   rw [hch, chgW]
   exact ⟨rfl, (by repeat (first | exact Ext.refl _ | assumption | refine Ext.trans (by assumption) ?_))⟩
theorem refIn_fn {w : World} {v u : Value} {l : List File} {f : File} {P : Nat → Prop} (h : (Sl tFile).rep P w v l) (hf : tFile.rep P w u f) (hP : ∀ k, P k → k < w.heap.size) (hl : l.length ≤ 1000) : Fn Tryz.prog 100 [v, u] w (fun r w2 => OwnO tFile P 28 w2 r (insF l f) (fun k => w.heap.size ≤ k) ∧ Ext (fun _ => False) w w2) := by
 obtain ⟨a, cap, rfl, hcap⟩ := Sl.val h
 obtain ⟨af, kf, rfl, hpsf, hnmf, hszf⟩ := tFile.val hf
 refine Fn.enter (fun w => Tryz.call100 _ w) Tryz.func100 rfl ?_
 refine .seq (.region ?_)
 refine .v rfl rfl (.box rfl) ?_
 rintro _ w3 ⟨rfl, N3⟩
 have B3 := N3.blk
 have X3 := N3.ext
 have z3 := N3.size
 refine .p rfl rfl (.as rfl) (.nil (.code (.seq (.keep [(3, _), (0, _)] ⟨rfl, rfl, trivial⟩ (.region ?_)))))
 refine .p rfl rfl (.as rfl) (.nil (.code (.seq (.region ?_))))
 refine .p rfl rfl (.as rfl) (.nil (.code (.seq (.seq (.region ?_)))))
 refine .p rfl rfl (.as rfl) (.nil (.code (.block ?_)))
 refine .loop (S := Nat × Bool × List File × Value × World) (fun s => [(0, .slice a l.length cap), (3, .pointer (some ⟨w.heap.size, 0, none⟩)), (5, s.2.2.2.1), (6, .bool s.2.1), (7, i64 s.1)]) (fun s => s.2.2.2.2) (fun s => s.1 ≤ l.length ∧ (s.2.1 = true ∧ s.2.2.1 = insF (l.take s.1) f ∧ (∃ g ∈ l.take s.1, Op.bytesLess f.name g.name = true) ∨ s.2.1 = false ∧ s.2.2.1 = l.take s.1 ∧ ∀ g ∈ l.take s.1, ¬ Op.bytesLess f.name g.name = true) ∧ s.2.2.1.length ≤ s.1 + 1 ∧ OwnO tFile P 28 s.2.2.2.2 s.2.2.2.1 s.2.2.1 (fun k => w3.heap.size ≤ k) ∧ Ext (fun _ => False) w3 s.2.2.2.2) (fun s => l.length - s.1) (0, false, [], .slice none 0 0, w3) ⟨rfl, rfl, rfl, rfl, rfl, trivial⟩ rfl ⟨Nat.zero_le _, .inr ⟨rfl, rfl, fun g hg => by cases hg⟩, Nat.zero_le _, OwnO.nil, .refl _⟩ ?_
 rintro ⟨i, b, out, vi, wi⟩ J ⟨hi', hc, hlo, hO, hX⟩ again
 simp only at hi' hc hlo hO hX
 have zi := hX.size
 change G _ [(0, .slice a l.length cap), (3, .pointer (some ⟨w.heap.size, 0, none⟩)), (5, vi), (6, .bool b), (7, i64 i)] _ _ wi
 refine .seq (.seq (.region ?_))
 refine .p rfl rfl (.mv rfl) (.p rfl rfl (.mv rfl) (.p rfl rfl (.len rfl rfl) (.p rfl rfl (.lt rfl rfl) (.nil (.code (.keep [(11, _), (0, _), (3, _), (5, _), (6, _), (7, _)] ⟨rfl, rfl, rfl, rfl, rfl, rfl, trivial⟩ ?_))))))
 refine .condD rfl (fun c11 => ?_) (fun c11 => ?_)
 ·have hi : i < l.length := by omega
  obtain ⟨b1, o1, q1, ue1, e1, _, hcs, hre⟩ := Sl.at h (List.getElem?_eq_getElem hi)
  cases e1
  obtain ⟨fa1, fc1, rfl, hps, hnm, hsz⟩ := tFile.val hre
  refine .skip (.code (.seq (.block (.seq (.seq (.keep [(0, _), (3, _), (5, _), (6, _), (7, _)] ⟨rfl, rfl, rfl, rfl, rfl, trivial⟩ ?_))))))
  refine .meet (S := Bool) (fun s => [(0, .slice (some ⟨b1, o1, none⟩) l.length cap), (3, .pointer (some ⟨w.heap.size, 0, none⟩)), (5, vi), (6, .bool b), (7, i64 (i : Nat)), (25, .bool s)]) (fun s => wi) (fun s => (s = true → b = false ∧ Op.bytesLess f.name l[i].name = true) ∧ (s = false → b = true ∨ ¬ Op.bytesLess f.name l[i].name = true)) ?_ ?_
  ·rintro t25 ⟨ht25, hf25⟩
   refine .code ?_
   refine .meet (S := Bool × List File × Value × World) (fun s => [(0, .slice (some ⟨b1, o1, none⟩) l.length cap), (3, .pointer (some ⟨w.heap.size, 0, none⟩)), (5, s.2.2.1), (6, .bool s.1), (7, i64 (i : Nat))]) (fun s => s.2.2.2) (fun s => (s.1 = true ∧ s.2.1 ++ [l[i]] = insF (l.take (i + 1)) f ∧ (∃ g ∈ l.take (i + 1), Op.bytesLess f.name g.name = true) ∨ s.1 = false ∧ s.2.1 = l.take i ∧ ∀ g ∈ l.take (i + 1), ¬ Op.bytesLess f.name g.name = true) ∧ s.2.1.length ≤ i + 1 ∧ OwnO tFile P 28 s.2.2.2 s.2.2.1 s.2.1 (fun k => w3.heap.size ≤ k) ∧ Ext (fun _ => False) w3 s.2.2.2) ?_ ?_
   ·rintro ⟨bm, om, vm, wm⟩ ⟨hcm, hlm, hOm, hXm⟩
    simp only at hcm hlm hOm hXm
    have zm := hXm.size
    change A _ [(0, .slice (some ⟨b1, o1, none⟩) l.length cap), (3, .pointer (some ⟨w.heap.size, 0, none⟩)), (5, vm), (6, .bool bm), (7, i64 (i : Nat))] _ wm
    refine .code (.region ?_)
    refine .p rfl rfl (.mv rfl) (.p rfl rfl (.mv rfl) (.p rfl rfl (.mv rfl) (.p rfl rfl (.indexAddr (s := 3) rfl rfl rfl rfl (by omega)) (.p rfl rfl (.loadA (n := 3) rfl rfl rfl rfl rfl (hcs.ext (S := fun _ => False) (Ext.trans X3 hXm) (fun x => x))) (.v rfl rfl (.lits rfl rfl (fun _ => by kernel_rfl)) ?_)))))
    rintro _ w35 ⟨rfl, N35⟩
    have z35 := N35.size
    have X35 := N35.ext
    refine .v rfl rfl (.appendLo (t := tFile) (Q := P) (ys := [l[i]]) (eb := 48) rfl (OwnO.ext0 hOm N35.ext) (fun k hk => by show w3.heap.size ≤ k; omega) rfl (.inr (New.holds (t := tFile) (us := [_]) (xs := [l[i]]) N35 (.cons (tFile.ext0 hre (Ext.trans X3 hXm)) .nil) rfl)) rfl rfl rfl rfl rfl rfl rfl (by simp; omega) (by simp [Lim]; omega) (fun k hk _ hb => by have := hP k hk; have hb : w3.heap.size ≤ k := hb; omega)) ?_
    rintro v36 w36 ⟨O36, A36⟩
    have z36 := A36.size
    have Z36 : Ext (fun _ => False) w3 w36 := (Ext.trans hXm N35.ext).then A36 (fun k h _ => h)
    refine .p rfl rfl (.as rfl) (.nil (.blk (.code (.keep [(5, _), (0, _), (3, _), (6, _), (7, _)] ⟨rfl, rfl, rfl, rfl, rfl, trivial⟩ (.region ?_)))))
    refine .p rfl rfl (.mv rfl) (.p rfl rfl (.add rfl rfl (by omega)) (.p rfl rfl (.as rfl) (.nil ?_)))
    refine (again (i + 1, bm, om ++ [l[i]], v36, w36) ⟨by show i + 1 ≤ _; omega, ?_, by show (om ++ [l[i]]).length ≤ i + 1 + 1; simp; omega, O36, Z36⟩ (by show _ - (i + 1) < _ - i; omega)).of ⟨rfl, rfl, rfl, rfl, rfl, trivial⟩
    rcases hcm with ⟨h1, h2, h3⟩ | ⟨h1, h2, h3⟩
    ·exact .inl ⟨h1, h2, h3⟩
    ·exact .inr ⟨h1, by show om ++ [l[i]] = _; rw [h2, List.take_succ_eq_append_getElem hi], h3⟩
   ·intro meet
    refine .cond rfl (fun c25 => ?_) (fun c25 => ?_)
    ·obtain ⟨hbf, hlt⟩ := ht25 c25
     refine .seq (.keep [(0, _), (3, _), (5, _), (7, _)] ⟨rfl, rfl, rfl, rfl, trivial⟩ (.region ?_))
     refine .p rfl rfl (.mv rfl) (.p rfl rfl (.loadA (n := 3) rfl rfl rfl rfl rfl (B3.ext (S := fun _ => False) (by repeat (first | exact Ext.refl _ | assumption | refine Ext.trans (by assumption) ?_)) (fun x => x)).cells) ?_)
     refine .v rfl rfl (.lits rfl rfl (fun _ => by kernel_rfl)) ?_
     rintro _ w28 ⟨rfl, N28⟩
     have z28 := N28.size
     have X28 := N28.ext
     refine .v rfl rfl (.appendLo (t := tFile) (Q := P) (ys := [f]) (eb := 48) rfl (OwnO.ext0 hO N28.ext) (fun k hk => by show w3.heap.size ≤ k; omega) rfl (.inr (New.holds (t := tFile) (us := [_]) (xs := [f]) N28 (.cons (tFile.ext0 hf (Ext.trans X3 hX)) .nil) rfl)) rfl rfl rfl rfl rfl rfl rfl (by simp; omega) (by simp [Lim]; omega) (fun k hk _ hb => by have := hP k hk; have hb : w3.heap.size ≤ k := hb; omega)) ?_
     rintro v29 w29 ⟨O29, A29⟩
     have z29 := A29.size
     have Z29 : Ext (fun _ => False) w3 w29 := (Ext.trans hX N28.ext).then A29 (fun k h _ => h)
     refine .p rfl rfl (.as rfl) (.nil (.code (.keep [(5, _), (0, _), (3, _), (7, _)] ⟨rfl, rfl, rfl, rfl, trivial⟩ (.region ?_))))
     refine .p rfl rfl (.as rfl) (.nil ?_)
     have hno := hc.resolve_left (by rw [hbf]; exact fun h => Bool.false_ne_true h.1)
     exact (meet (true, out ++ [f], v29, w29) ⟨.inl ⟨rfl, by show out ++ [f] ++ [l[i]] = _; rw [List.take_succ_eq_append_getElem hi, insF_mid hlt hno.2.2, hno.2.1], ⟨l[i], (mem_step hi).2 (.inr rfl), hlt⟩⟩, by show (out ++ [f]).length ≤ i + 1; rw [hno.2.1, List.length_append, List.length_take]; simp; omega, O29, Z29⟩).of ⟨rfl, rfl, rfl, rfl, rfl, trivial⟩
    ·have hfb := hf25 c25
     refine .skip ?_
     rcases hc with ⟨h1, h2, h3⟩ | ⟨h1, h2, h3⟩
     ·exact (meet (b, out, vi, wi) ⟨.inl ⟨h1, by show out ++ [l[i]] = _; rw [List.take_succ_eq_append_getElem hi, insF_app h3, h2], by obtain ⟨g, hg, h4⟩ := h3; exact ⟨g, (mem_step hi).2 (.inl hg), h4⟩⟩, hlo, hO, hX⟩).of ⟨rfl, rfl, rfl, rfl, rfl, trivial⟩
     ·have hnl := hfb.resolve_left (by rw [h1]; exact Bool.false_ne_true)
      exact (meet (b, out, vi, wi) ⟨.inr ⟨h1, h2, fun g hg h4 => by rcases (mem_step hi).1 hg with h5 | rfl; exact h3 g h5 h4; exact hnl h4⟩, hlo, hO, hX⟩).of ⟨rfl, rfl, rfl, rfl, rfl, trivial⟩
  ·intro meet
   refine .draws (by kernel_rfl) (by kernel_rfl) (.p rfl rfl (.mv rfl) (.p rfl rfl (.not rfl) (.p rfl rfl (.mv rfl) ?_)))
   refine .case 16 rfl (fun c16 => ?_) (fun c16 => ?_)
   ·refine .p rfl rfl (.mv rfl) (.p rfl rfl (.mv rfl) (.p rfl rfl (.indexAddr (s := 3) rfl rfl rfl rfl (by omega)) (.p rfl rfl (.fieldAddr rfl rfl rfl rfl) (.p rfl rfl (.load rfl rfl rfl ((hcs.ext (S := fun _ => False) (by repeat (first | exact Ext.refl _ | assumption | refine Ext.trans (by assumption) ?_)) (fun x => x)) 0 _ rfl)) ?_))))
    refine .p rfl rfl (.fieldAddr rfl rfl rfl rfl) (.p rfl rfl (.load rfl rfl rfl ((B3.ext (S := fun _ => False) (by repeat (first | exact Ext.refl _ | assumption | refine Ext.trans (by assumption) ?_)) (fun x => x)).cell 0)) ?_)
    refine .p rfl rfl (.gtS4 rfl rfl) (.p rfl rfl (.pickT rfl rfl) (.nil ?_))
    exact (meet (Op.bytesLess f.name l[i].name) ⟨fun h => ⟨by simpa using c16, h⟩, fun h => .inr (by rw [h]; exact Bool.false_ne_true)⟩).of ⟨rfl, rfl, rfl, rfl, rfl, rfl, trivial⟩
   ·refine .skip rfl rfl (.skip rfl rfl (.skip rfl rfl (.skip rfl rfl (.skip rfl rfl (.skip rfl rfl (.skip rfl rfl (.skip rfl rfl (.p rfl rfl (.pickF rfl rfl) (.nil ?_)))))))))
    exact (meet false ⟨fun h => (by cases h), fun _ => .inl (by simpa using c16)⟩).of ⟨rfl, rfl, rfl, rfl, rfl, rfl, trivial⟩
 ·obtain rfl : i = l.length := by omega
  refine .exit rfl (.code (.seq (.seq (.keep [(3, _), (5, _), (6, _)] ⟨rfl, rfl, rfl, trivial⟩ (.region ?_)))))
  refine .p rfl rfl (.mv rfl) (.p rfl rfl (.not rfl) (.nil (.code (.keep [(38, _), (3, _), (5, _)] ⟨rfl, rfl, rfl, trivial⟩ ?_))))
  refine .meet (S := Value × World) (fun s => [(5, s.1)]) (fun s => s.2) (fun s => OwnO tFile P 28 s.2 s.1 (insF l f) (fun k => w3.heap.size ≤ k) ∧ Ext (fun _ => False) w3 s.2) ?_ ?_
  ·rintro ⟨vm, wm⟩ ⟨hOm, hXm⟩
   simp only at hOm hXm
   have zm := hXm.size
   change A _ [(5, vm)] _ wm
   refine .code (.seq (.region ?_))
   refine .p rfl rfl (.mv rfl) (.p rfl rfl (.as rfl) (.nil (.code ?_)))
   refine .ret _ rfl ?_
   exact ⟨OwnO.mono hOm (fun _ h _ => h) (fun k h _ => by have h : w3.heap.size ≤ k := h; show w.heap.size ≤ k; omega), (by repeat (first | exact Ext.refl _ | assumption | refine Ext.trans (by assumption) ?_))⟩
  ·intro meet
   refine .cond rfl (fun c38 => ?_) (fun c38 => ?_)
   ·refine .keep [(3, _), (5, _)] ⟨rfl, rfl, trivial⟩ (.region ?_)
    refine .p rfl rfl (.mv rfl) (.p rfl rfl (.loadA (n := 3) rfl rfl rfl rfl rfl (B3.ext (S := fun _ => False) (by repeat (first | exact Ext.refl _ | assumption | refine Ext.trans (by assumption) ?_)) (fun x => x)).cells) ?_)
    refine .v rfl rfl (.lits rfl rfl (fun _ => by kernel_rfl)) ?_
    rintro _ w41 ⟨rfl, N41⟩
    have z41 := N41.size
    have X41 := N41.ext
    refine .v rfl rfl (.appendLo (t := tFile) (Q := P) (ys := [f]) (eb := 48) rfl (OwnO.ext0 hO N41.ext) (fun k hk => by show w3.heap.size ≤ k; omega) rfl (.inr (New.holds (t := tFile) (us := [_]) (xs := [f]) N41 (.cons (tFile.ext0 hf (Ext.trans X3 hX)) .nil) rfl)) rfl rfl rfl rfl rfl rfl rfl (by simp; omega) (by simp [Lim]; omega) (fun k hk _ hb => by have := hP k hk; have hb : w3.heap.size ≤ k := hb; omega)) ?_
    rintro v42 w42 ⟨O42, A42⟩
    have z42 := A42.size
    have Z42 : Ext (fun _ => False) w3 w42 := (Ext.trans hX N41.ext).then A42 (fun k h _ => h)
    refine .p rfl rfl (.as rfl) (.nil ?_)
    have hb : b = false := by simpa using c38
    have hno := hc.resolve_left (by rw [hb]; exact fun h => Bool.false_ne_true h.1)
    exact (meet (v42, w42) ⟨by show OwnO _ _ _ _ _ (insF l f) _; rw [insF_all (by have := hno.2.2; rw [List.take_length] at this; exact this), ← List.take_length (l := l), ← hno.2.1]; exact O42, Z42⟩).of ⟨rfl, trivial⟩
   ·refine .skip ?_
    have hb : b = true := by simpa using c38
    have hyes := hc.resolve_right (by rw [hb]; exact fun h => Bool.false_ne_true h.1.symm)
    exact (meet (vi, wi) ⟨by have h2 := hyes.2.1; rw [List.take_length] at h2; rw [← h2]; exact hO, hX⟩).of ⟨rfl, trivial⟩
theorem refNewest_fn {w : World} {v : Value} {d : Disk} {o : Nat} {g : Int} (h : disk.tDisk.rep All w v d) (hc : disk.checkF d = 0) (hn : ((o + 8 : Nat) : Int) ≤ d.count) (hg : 0 ≤ g ∧ g < 4611686018427387904) : Fn Tryz.prog 102 [v, i64 g, i64 (o : Nat)] w (fun r w2 => r = i64 (genTo d o g 8 + 1) ∧ Ext (fun _ => False) w w2) := by
 have h0 := h
 obtain ⟨u, u', rfl, hd1, hd2, hdc⟩ := disk.tDisk.val h
 obtain ⟨a1, k1, rfl, _⟩ := Sl.val hd1
 obtain ⟨a2, k2, rfl, _⟩ := Sl.val hd2
 have hct := (disk.check_ok hc).2.1
 refine Fn.enter (fun w => Tryz.call102 _ w) Tryz.func102 rfl ?_
 refine .seq (.region ?_)
 refine .v rfl rfl (.box rfl) ?_
 rintro _ w3 ⟨rfl, N3⟩
 have B3 := N3.blk
 have X3 := N3.ext
 have z3 := N3.size
 refine .p rfl rfl (.as rfl) (.nil (.code (.seq (.seq (.keep [(3, _), (1, _), (2, _)] ⟨rfl, rfl, rfl, trivial⟩ (.region ?_))))))
 refine .p rfl rfl (.as rfl) (.nil (.code (.block ?_)))
 refine .loop (S := Nat × Int × World) (fun s => [(1, i64 s.2.1), (2, i64 (o : Nat)), (3, .pointer (some ⟨w.heap.size, 0, none⟩)), (7, i64 s.1)]) (fun s => s.2.2) (fun s => s.1 ≤ 8 ∧ s.2.1 = genTo d o g s.1 ∧ Ext (fun _ => False) w3 s.2.2) (fun s => 8 - s.1) (0, g, w3) ⟨rfl, rfl, rfl, rfl, trivial⟩ rfl ⟨Nat.zero_le _, (genTo_0 d o g).symm, .refl _⟩ ?_
 rintro ⟨i, gi, wi⟩ J ⟨hi', hgi, hX⟩ again
 simp only at hi' hgi hX
 have zi := hX.size
 have hgl := genTo_le d o g i
 have hgu := genTo_bd d o g hg.2 i
 rw [← hgi] at hgl hgu
 change G _ [(1, i64 gi), (2, i64 (o : Nat)), (3, .pointer (some ⟨w.heap.size, 0, none⟩)), (7, i64 i)] _ _ wi
 refine .seq (.seq (.region ?_))
 refine .p rfl rfl (.mv rfl) (.p rfl rfl (.lt rfl rfl) (.nil (.code (.keep [(11, _), (1, _), (2, _), (3, _), (7, _)] ⟨rfl, rfl, rfl, rfl, rfl, trivial⟩ ?_))))
 refine .condD rfl (fun c11 => ?_) (fun c11 => ?_)
 ·have hi : i < 8 := by omega
  have hrl := fread_length hc (n := ((o + i : Nat) : Int)) (by omega) (by omega)
  refine .skip (.code (.seq (.block (.seq (.keep [(1, _), (2, _), (3, _), (7, _)] ⟨rfl, rfl, rfl, rfl, trivial⟩ (.region ?_))))))
  refine .p rfl rfl (.loadA (n := 3) rfl rfl rfl rfl rfl (B3.ext (S := fun _ => False) (by repeat (first | exact Ext.refl _ | assumption | refine Ext.trans (by assumption) ?_)) (fun x => x)).cells) ?_
  refine .p rfl rfl (.mv rfl) (.p rfl rfl (.mv rfl) (.p rfl rfl (.cast (.add rfl rfl (by omega)) (show _ = i64 ((o + i : Nat) : Int) by congr 1)) (.call (first := []) (captured := []) rfl rfl rfl rfl (refNow0_fn (n := ((o + i : Nat) : Int)) (disk.tDisk.ext0 h0 (by repeat (first | exact Ext.refl _ | assumption | refine Ext.trans (by assumption) ?_))) (disk.asked_of hc (by omega) (by omega))) ?_)))
  rintro _ w19 ⟨R19, X19⟩
  have z19 := X19.size
  obtain ⟨a19, k19, rfl, _⟩ := Sl.val R19
  obtain ⟨a20, c20, hv20, _, R20⟩ := Sl.cutE R19 0 8 (by omega) (by omega)
  rw [List.drop_zero] at R20
  obtain ⟨n8, hn8⟩ : ∃ n, n = getTo ((disk.readF d ((o + i : Nat) : Int)).take 8) 8 := ⟨_, rfl⟩
  have hgb := getTo_bd ((disk.readF d ((o + i : Nat) : Int)).take 8) (i := 8) (by omega)
  rw [← hn8] at hgb
  refine .p rfl rfl (.cast (.cutHi (s := 1) rfl rfl rfl rfl (by omega)) (show cutV 1 a19 k19 0 (8 : Int).toNat = .slice a20 (8 - 0) c20 from hv20)) (.call (first := []) (captured := []) rfl rfl rfl rfl (RefGet8_fn (b := (disk.readF d ((o + i : Nat) : Int)).take 8) hn8 (by rw [List.take_take]; exact R20) (by rw [List.length_take]; omega)) ?_)
  rintro _ w21 ⟨rfl, X21⟩
  have z21 := X21.size
  refine .p rfl rfl (.mv rfl) (.p rfl rfl (.extract rfl rfl) (.p rfl rfl (.extract rfl rfl) (.p rfl rfl (.as rfl) (.p rfl rfl (.as rfl) (.nil (.code (.seq (.keep [(8, _), (1, _), (2, _), (3, _), (7, _)] ⟨rfl, rfl, rfl, rfl, rfl, trivial⟩ (.region ?_)))))))))
  refine .p rfl rfl (.mv rfl) (.p rfl rfl (.lt rfl rfl) (.nil (.code (.keep [(25, _), (8, _), (1, _), (2, _), (3, _), (7, _)] ⟨rfl, rfl, rfl, rfl, rfl, rfl, trivial⟩ ?_))))
  refine .condD rfl (fun c25 => ?_) (fun c25 => ?_)
  ·refine .keep [(8, _), (1, _), (2, _), (3, _), (7, _)] ⟨rfl, rfl, rfl, rfl, rfl, trivial⟩ (.region ?_)
   refine .p rfl rfl (.mv rfl) (.p rfl rfl (.mv rfl) (.p rfl rfl (.convI rfl rfl rfl (by omega)) (.p rfl rfl (.max2 rfl rfl) (.p rfl rfl (.as rfl) (.nil (.blk (.code (.keep [(1, _), (2, _), (3, _), (7, _)] ⟨rfl, rfl, rfl, rfl, trivial⟩ (.region ?_)))))))))
   refine .p rfl rfl (.mv rfl) (.p rfl rfl (.add rfl rfl (by omega)) (.p rfl rfl (.as rfl) (.nil ?_)))
   exact (again (i + 1, max gi (n8 : Nat), w21) ⟨by show i + 1 ≤ 8; omega, by show _ = genTo d o g (i + 1); rw [genTo_s, if_pos (by rw [← hn8]; omega), ← hn8, hgi], (by repeat (first | exact Ext.refl _ | assumption | refine Ext.trans (by assumption) ?_))⟩ (by show 8 - (i + 1) < 8 - i; omega)).of ⟨rfl, rfl, rfl, rfl, trivial⟩
  ·refine .skip (.blk (.code (.keep [(1, _), (2, _), (3, _), (7, _)] ⟨rfl, rfl, rfl, rfl, trivial⟩ (.region ?_))))
   refine .p rfl rfl (.mv rfl) (.p rfl rfl (.add rfl rfl (by omega)) (.p rfl rfl (.as rfl) (.nil ?_)))
   exact (again (i + 1, gi, w21) ⟨by show i + 1 ≤ 8; omega, by show _ = genTo d o g (i + 1); rw [genTo_s, if_neg (by rw [← hn8]; omega), hgi], (by repeat (first | exact Ext.refl _ | assumption | refine Ext.trans (by assumption) ?_))⟩ (by show 8 - (i + 1) < 8 - i; omega)).of ⟨rfl, rfl, rfl, rfl, trivial⟩
 ·have hi8 : i = 8 := by omega
  refine .exit rfl (.code (.seq (.keep [(1, _)] ⟨rfl, trivial⟩ (.region ?_))))
  refine .p rfl rfl (.mv rfl) (.p rfl rfl (.add rfl rfl (by omega)) (.p rfl rfl (.as rfl) (.nil (.code ?_))))
  refine .ret _ rfl ?_
  have e : genTo d o g 8 = gi := by rw [hgi, hi8]
  rw [e]
  exact ⟨rfl, (by repeat (first | exact Ext.refl _ | assumption | refine Ext.trans (by assumption) ?_))⟩
end Go.Proofs.YtpfehnopghffjaaGreatDoor
