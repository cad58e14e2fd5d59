/-
  DiskReads, DiskDoes: walked.
-/
import Derived.Test.YtfgjpiemnfefmaaLaw02
set_option linter.unusedVariables false
set_option linter.unusedSimpArgs false
set_option maxRecDepth 20000
namespace Go.Proofs.Ytfgjpiemnfefmaa
open Go disk
theorem own_below {w : World} {v : Value} {l : Bs} {b : Nat} (h : Own tByte (fun _ => False) 5 w v l b) : tBytes.rep (fun k => k < w.heap.size) w v l := by
  have h' := h
  obtain ⟨hl, ⟨rfl, rfl⟩ | ⟨cap, us, sp, rfl, hc, he, hB, hn⟩⟩ := h'
  · exact Sl.nil
  · exact h.rep hB.lt (fun _ h _ => h.elim)
theorem own_all {w : World} {v : Value} {l : Bs} {b : Nat} (h : Own tByte (fun _ => False) 5 w v l b) : tBytes.rep All w v l := h.rep trivial (fun _ h _ => h.elim)
theorem refSameT_fn {w : World} {v u : Value} {a : Disk} (ha : tDisk.rep All w v a) (hb : tDisk.rep All w u a) : Fn Try.prog 18 [v, u] w (fun r w2 => r = .bool true ∧ Ext (fun _ => False) w w2) :=
  (refSame_fn ha hb).mono fun r w2 ⟨h1, h2⟩ => ⟨h1.trans (by rw [decide_eq_true rfl]), h2⟩
theorem SameT_fn {w : World} {v u : Value} {a : Disk} (ha : tDisk.rep All w v a) (hb : tDisk.rep All w u a) : Fn Try.prog 19 [v, u] w (fun r w2 => r = .bool true ∧ Ext (fun _ => False) w w2) :=
  (Same_fn ha hb).mono fun r w2 ⟨h1, h2⟩ => ⟨h1.trans (by rw [decide_eq_true rfl]), h2⟩
theorem tDisk.shape {P : Nat → Prop} {w : World} {v : Value} {d : Disk} (h : tDisk.rep P w v d) : ∃ a1 c1 a2 c2, v = .agg #[i64 d.count, .slice a1 d.data.length c1, .slice a2 d.waits.length c2] := by
  obtain ⟨u, u', rfl, hd, hw, _⟩ := tDisk.val h
  obtain ⟨a, cap, rfl, _⟩ := Sl.val hd
  obtain ⟨aw, capw, rfl, _⟩ := Sl.val hw
  exact ⟨_, _, _, _, rfl⟩
theorem DiskReads_fn {w : World} {v vb : Value} {d : Disk} {count n : Int} {b : Bs} (h : tDisk.rep All w v d) (hn : -9223372036854775808 ≤ n ∧ n ≤ 9223372036854775807) (hb : tBytes.rep All w vb b) : Fn Try.prog 4 [i64 count, v, i64 n, vb] w (fun r w2 => r = .bool true ∧ Ext (fun _ => False) w w2) := by
  have R5 := tDisk.mono h (P' := fun k => k < w.heap.size) (fun k _ h => h)
  have Rb := tBytes.mono hb (P' := fun k => k < w.heap.size) (fun k _ h => h)
  obtain ⟨u1, q1, u2, q2, rfl⟩ := tDisk.shape h
  obtain ⟨ab, capb, rfl, hcapb⟩ := Sl.val hb
  refine Fn.enter (fun w => Try.call4 _ w) Try.func4 rfl ?_
  refine .seq (.region ?_)
  refine .v rfl rfl (.box rfl) ?_
  rintro _ w5 ⟨rfl, N5⟩
  have X5 := N5.ext
  have z5 : w5.heap.size = w.heap.size + 1 := N5.size
  have B5 := N5.blk
  refine .p rfl rfl (.as rfl) ?_
  refine .nil (.code (.seq (.seq (.keep [(5, _), (0, _), (2, _), (3, _)] ⟨rfl, rfl, rfl, rfl, trivial⟩ ?_))))
  refine .meet (S := Bool × World) (fun s => [(0, i64 count), (2, i64 n), (3, .slice ab b.length capb), (5, .pointer (some ⟨w.heap.size, 0, none⟩)), (42, .bool s.1)]) (fun s => s.2) (fun s => Ext (fun _ => False) w5 s.2 ∧ (s.1 = false → largeB d = false ∧ b.length ≤ 10000)) ?_ ?_
  · rintro ⟨q, w29⟩ ⟨X29, hq⟩
    simp only at X29 hq
    have z29 := X29.size
    change A _ _ _ w29
    refine .code ?_
    refine .cond rfl (fun c42 => ?_) (fun c42 => ?_)
    · refine .seq (.keep [] trivial (.region ?_))
      refine .p rfl rfl (.as rfl) ?_
      refine .nil (.code ?_)
      refine .ret _ rfl ?_
      exact ⟨rfl, X5.trans X29⟩
    · obtain ⟨hlg, hbl⟩ := hq c42
      obtain ⟨hl1, hl2⟩ := large_not hlg
      refine .skip (.code (.seq (.keep [(0, _), (2, _), (3, _), (5, _)] ⟨rfl, rfl, rfl, rfl, trivial⟩ (.region ?_))))
      refine .p rfl rfl (.loadA (n := 3) rfl rfl rfl rfl rfl (B5.ext (by repeat (first | exact Ext.refl _ | assumption | refine Ext.trans (by assumption) ?_)) (fun x => x)).cells) ?_
      refine .call (first := []) (captured := []) rfl rfl rfl rfl (refTwin_fn (tDisk.ext0 h (by repeat (first | exact Ext.refl _ | assumption | refine Ext.trans (by assumption) ?_))) (by omega)) ?_
      rintro r44 w44 ⟨D44, X44⟩
      have z44 := X44.size
      obtain ⟨x1, y1, x2, y2, rfl⟩ := D44.val
      have R44 := tDisk.mono D44.rep (P' := fun k => k < w44.heap.size) (fun k _ h => h)
      refine .p rfl rfl (.mv rfl) ?_
      refine .v rfl rfl (.append (t := tByte) (Q := fun _ => False) (b := w44.heap.size) (eb := 1) rfl Own.nil rfl (Sl.holds (tBytes.ext0 hb (by repeat (first | exact Ext.refl _ | assumption | refine Ext.trans (by assumption) ?_))) (fun _ _ h => h)) rfl rfl rfl rfl rfl rfl rfl (by simp; omega) (by simp [Lim]; omega) (fun _ h _ => h.elim)) ?_
      rintro v46 w46 ⟨b46, O46, Y46, hb46⟩
      have O46 := O46.mono (Q' := fun _ => False) (fun _ h _ => h.1)
      rw [List.nil_append] at O46
      have X46 := Y46.mono (S' := fun _ => False) (fun k hk he => by have he : k = w44.heap.size := he; omega)
      clear Y46
      have z46 := X46.size
      have R46 := own_below O46
      obtain ⟨a46, c46, rfl, _⟩ := Sl.val R46
      refine .v rfl rfl (.alloc rfl rfl) ?_
      rintro _ wn9 ⟨rfl, N9⟩
      refine .s rfl (.storeAll (n := 3) rfl rfl rfl rfl rfl N9.blk rfl) ?_
      intro w3 P9
      have X9 := N9.ext.then P9.ext (by rintro k rfl _; exact Nat.le_refl _)
      have z9 := X9.size
      have B9 := P9.blk
      have l9 := B9.lt
      clear N9 P9
      refine .p rfl rfl (.as rfl) ?_
      refine .nil (.code (.seq (.keep [(10, _), (9, _), (0, _), (2, _), (3, _), (5, _)] ⟨rfl, rfl, rfl, rfl, rfl, rfl, trivial⟩ (.region ?_))))
      refine .p rfl rfl (.mv rfl) ?_
      refine .call (first := []) (captured := []) rfl rfl rfl rfl (New_fn) ?_
      rintro _ w49 ⟨v49, rfl, R49, X49⟩
      have z49 := X49.size
      obtain ⟨x3, y3, x4, y4, rfl⟩ := tDisk.shape R49
      refine .p rfl rfl (.mv rfl) ?_
      refine .p rfl rfl (.extract rfl rfl) ?_
      refine .p rfl rfl (.extract rfl rfl) ?_
      refine .v rfl rfl (.alloc rfl rfl) ?_
      rintro _ wn11 ⟨rfl, N11⟩
      refine .s rfl (.storeAll (n := 3) rfl rfl rfl rfl rfl N11.blk rfl) ?_
      intro w4 P11
      have X11 := N11.ext.then P11.ext (by rintro k rfl _; exact Nat.le_refl _)
      have z11 := X11.size
      have B11 := P11.blk
      have l11 := B11.lt
      clear N11 P11
      refine .p rfl rfl (.as rfl) ?_
      refine .nil (.code (.seq (.keep [(12, _), (11, _), (10, _), (9, _), (0, _), (2, _), (3, _), (5, _)] ⟨rfl, rfl, rfl, rfl, rfl, rfl, rfl, rfl, trivial⟩ (.region ?_))))
      refine .p rfl rfl (.mv rfl) ?_
      refine .call (first := []) (captured := []) rfl rfl rfl rfl (refNew_fn) ?_
      rintro _ w54 ⟨v54, rfl, R54, X54⟩
      have z54 := X54.size
      obtain ⟨x5, y5, x6, y6, rfl⟩ := tDisk.shape R54
      refine .p rfl rfl (.mv rfl) ?_
      refine .p rfl rfl (.extract rfl rfl) ?_
      refine .p rfl rfl (.extract rfl rfl) ?_
      refine .v rfl rfl (.alloc rfl rfl) ?_
      rintro _ wn13 ⟨rfl, N13⟩
      refine .s rfl (.storeAll (n := 3) rfl rfl rfl rfl rfl N13.blk rfl) ?_
      intro w6 P13
      have X13 := N13.ext.then P13.ext (by rintro k rfl _; exact Nat.le_refl _)
      have z13 := X13.size
      have B13 := P13.blk
      have l13 := B13.lt
      clear N13 P13
      refine .p rfl rfl (.as rfl) ?_
      refine .nil (.code (.seq (.keep [(14, _), (13, _), (12, _), (11, _), (10, _), (9, _), (2, _), (3, _), (5, _)] ⟨rfl, rfl, rfl, rfl, rfl, rfl, rfl, rfl, rfl, trivial⟩ (.region ?_))))
      refine .p rfl rfl (.loadA (n := 3) rfl rfl rfl rfl rfl (B9.ext (by repeat (first | exact Ext.refl _ | assumption | refine Ext.trans (by assumption) ?_)) (fun x => x)).cells) ?_
      refine .p rfl rfl (.mv rfl) ?_
      refine .call (first := []) (captured := []) rfl rfl rfl rfl (Read_fn (n := n) (allOf (tDisk.ext0 D44.rep (by repeat (first | exact Ext.refl _ | assumption | refine Ext.trans (by assumption) ?_))))) ?_
      rintro _ w60 ⟨s60, b60, rfl, O60, hb60, X60⟩
      have z60 := X60.size
      generalize hlp : (if askedF d n = 0 then readF d n else []) = lp at O60
      obtain ⟨a60, c60, rfl, _⟩ := O60.val
      have hWp := WrB.of (Q := fun k => w6.heap.size ≤ k ∧ k < w60.heap.size) O60 (fun h => ⟨hb60, h⟩)
      refine .p rfl rfl (.mv rfl) ?_
      refine .p rfl rfl (.extract rfl rfl) ?_
      refine .p rfl rfl (.extract rfl rfl) ?_
      refine .p rfl rfl (.as rfl) ?_
      refine .p rfl rfl (.as rfl) ?_
      refine .nil (.code (.seq (.keep [(16, _), (15, _), (14, _), (13, _), (12, _), (11, _), (10, _), (9, _), (2, _), (3, _), (5, _)] ⟨rfl, rfl, rfl, rfl, rfl, rfl, rfl, rfl, rfl, rfl, rfl, trivial⟩ (.region ?_))))
      refine .p rfl rfl (.loadA (n := 3) rfl rfl rfl rfl rfl (B5.ext (by repeat (first | exact Ext.refl _ | assumption | refine Ext.trans (by assumption) ?_)) (fun x => x)).cells) ?_
      refine .p rfl rfl (.mv rfl) ?_
      refine .call (first := []) (captured := []) rfl rfl rfl rfl (refRead_fn (n := n) (tDisk.ext0 h (by repeat (first | exact Ext.refl _ | assumption | refine Ext.trans (by assumption) ?_)))) ?_
      rintro _ w66 ⟨s66, b66, rfl, O66, hb66, X66⟩
      have z66 := X66.size
      rw [hlp] at O66
      refine .p rfl rfl (.mv rfl) ?_
      refine .p rfl rfl (.extract rfl rfl) ?_
      refine .p rfl rfl (.extract rfl rfl) ?_
      refine .p rfl rfl (.as rfl) ?_
      refine .p rfl rfl (.as rfl) ?_
      refine .nil (.code (.seq (.keep [(18, _), (17, _), (16, _), (15, _), (14, _), (13, _), (12, _), (11, _), (10, _), (9, _), (2, _), (3, _), (5, _)] ⟨rfl, rfl, rfl, rfl, rfl, rfl, rfl, rfl, rfl, rfl, rfl, rfl, rfl, trivial⟩ (.region ?_))))
      refine .p rfl rfl (.loadA (n := 3) rfl rfl rfl rfl rfl (B9.ext (by repeat (first | exact Ext.refl _ | assumption | refine Ext.trans (by assumption) ?_)) (fun x => x)).cells) ?_
      refine .p rfl rfl (.mv rfl) ?_
      refine .call (first := []) (captured := []) rfl rfl rfl rfl (Sure_fn (n := n) (allOf (tDisk.ext0 D44.rep (by repeat (first | exact Ext.refl _ | assumption | refine Ext.trans (by assumption) ?_))))) ?_
      rintro _ w72 ⟨s72, b72, rfl, O72, hb72, X72⟩
      have z72 := X72.size
      generalize hlr : (if askedF d n = 0 then (d.data.drop (n.toNat * 128)).take 128 else []) = lr at O72
      obtain ⟨a72, c72, rfl, _⟩ := O72.val
      have hWr := WrB.of (Q := fun k => w66.heap.size ≤ k ∧ k < w72.heap.size) O72 (fun h => ⟨hb72, h⟩)
      refine .p rfl rfl (.mv rfl) ?_
      refine .p rfl rfl (.extract rfl rfl) ?_
      refine .p rfl rfl (.extract rfl rfl) ?_
      refine .p rfl rfl (.as rfl) ?_
      refine .p rfl rfl (.as rfl) ?_
      refine .nil (.code (.seq (.keep [(20, _), (19, _), (18, _), (17, _), (16, _), (15, _), (14, _), (13, _), (12, _), (11, _), (10, _), (9, _), (2, _), (3, _), (5, _)] ⟨rfl, rfl, rfl, rfl, rfl, rfl, rfl, rfl, rfl, rfl, rfl, rfl, rfl, rfl, rfl, trivial⟩ (.region ?_))))
      refine .p rfl rfl (.loadA (n := 3) rfl rfl rfl rfl rfl (B5.ext (by repeat (first | exact Ext.refl _ | assumption | refine Ext.trans (by assumption) ?_)) (fun x => x)).cells) ?_
      refine .p rfl rfl (.mv rfl) ?_
      refine .call (first := []) (captured := []) rfl rfl rfl rfl (refSure_fn (n := n) (tDisk.ext0 h (by repeat (first | exact Ext.refl _ | assumption | refine Ext.trans (by assumption) ?_)))) ?_
      rintro _ w78 ⟨s78, b78, rfl, O78, hb78, X78⟩
      have z78 := X78.size
      rw [hlr] at O78
      refine .p rfl rfl (.mv rfl) ?_
      refine .p rfl rfl (.extract rfl rfl) ?_
      refine .p rfl rfl (.extract rfl rfl) ?_
      refine .p rfl rfl (.as rfl) ?_
      refine .p rfl rfl (.as rfl) ?_
      refine .nil (.code (.seq (.keep [(22, _), (21, _), (20, _), (19, _), (18, _), (17, _), (16, _), (15, _), (14, _), (13, _), (12, _), (11, _), (10, _), (9, _), (2, _), (3, _), (5, _)] ⟨rfl, rfl, rfl, rfl, rfl, rfl, rfl, rfl, rfl, rfl, rfl, rfl, rfl, rfl, rfl, rfl, rfl, trivial⟩ (.region ?_))))
      refine .p rfl rfl (.loadA (n := 3) rfl rfl rfl rfl rfl (B9.ext (by repeat (first | exact Ext.refl _ | assumption | refine Ext.trans (by assumption) ?_)) (fun x => x)).cells) ?_
      refine .p rfl rfl (.mv rfl) ?_
      refine .p rfl rfl (.mv rfl) ?_
      refine .call (first := []) (captured := []) rfl rfl rfl rfl (Write_fn (allOf (tDisk.ext0 D44.rep (by repeat (first | exact Ext.refl _ | assumption | refine Ext.trans (by assumption) ?_)))) (tBytes.ext0 (allOf R46) (by repeat (first | exact Ext.refl _ | assumption | refine Ext.trans (by assumption) ?_))) hn) ?_
      rintro _ w85 ⟨v85, rfl, D85, X85⟩
      have z85 := X85.size
      obtain ⟨x7, y7, x8, y8, rfl⟩ := D85.val
      refine .p rfl rfl (.mv rfl) ?_
      refine .p rfl rfl (.extract rfl rfl) ?_
      refine .p rfl rfl (.extract rfl rfl) ?_
      refine .v rfl rfl (.alloc rfl rfl) ?_
      rintro _ wn23 ⟨rfl, N23⟩
      refine .s rfl (.storeAll (n := 3) rfl rfl rfl rfl rfl N23.blk rfl) ?_
      intro w10 P23
      have X23 := N23.ext.then P23.ext (by rintro k rfl _; exact Nat.le_refl _)
      have z23 := X23.size
      have B23 := P23.blk
      have l23 := B23.lt
      clear N23 P23
      refine .p rfl rfl (.as rfl) ?_
      refine .nil (.code (.seq (.keep [(24, _), (23, _), (22, _), (21, _), (20, _), (19, _), (18, _), (17, _), (16, _), (15, _), (14, _), (13, _), (12, _), (11, _), (10, _), (9, _), (2, _), (3, _), (5, _)] ⟨rfl, rfl, rfl, rfl, rfl, rfl, rfl, rfl, rfl, rfl, rfl, rfl, rfl, rfl, rfl, rfl, rfl, rfl, rfl, trivial⟩ (.region ?_))))
      refine .p rfl rfl (.loadA (n := 3) rfl rfl rfl rfl rfl (B5.ext (by repeat (first | exact Ext.refl _ | assumption | refine Ext.trans (by assumption) ?_)) (fun x => x)).cells) ?_
      refine .p rfl rfl (.mv rfl) ?_
      refine .p rfl rfl (.mv rfl) ?_
      refine .call (first := []) (captured := []) rfl rfl rfl rfl (refWrite_fn (tDisk.ext0 h (by repeat (first | exact Ext.refl _ | assumption | refine Ext.trans (by assumption) ?_))) (tBytes.ext0 hb (by repeat (first | exact Ext.refl _ | assumption | refine Ext.trans (by assumption) ?_))) hn) ?_
      rintro _ w92 ⟨v92, rfl, R92, X92⟩
      have z92 := X92.size
      obtain ⟨x9, y9, x0, y0, rfl⟩ := tDisk.shape R92
      refine .p rfl rfl (.mv rfl) ?_
      refine .p rfl rfl (.extract rfl rfl) ?_
      refine .p rfl rfl (.extract rfl rfl) ?_
      refine .v rfl rfl (.alloc rfl rfl) ?_
      rintro _ wn25 ⟨rfl, N25⟩
      refine .s rfl (.storeAll (n := 3) rfl rfl rfl rfl rfl N25.blk rfl) ?_
      intro w11 P25
      have X25 := N25.ext.then P25.ext (by rintro k rfl _; exact Nat.le_refl _)
      have z25 := X25.size
      have B25 := P25.blk
      have l25 := B25.lt
      clear N25 P25
      refine .p rfl rfl (.as rfl) ?_
      refine .nil (.code (.seq (.seq (.keep [(26, _), (25, _), (24, _), (23, _), (22, _), (21, _), (20, _), (19, _), (18, _), (17, _), (16, _), (15, _), (14, _), (13, _), (12, _), (11, _), (10, _), (9, _), (3, _), (5, _)] ⟨rfl, rfl, rfl, rfl, rfl, rfl, rfl, rfl, rfl, rfl, rfl, rfl, rfl, rfl, rfl, rfl, rfl, rfl, rfl, rfl, trivial⟩ (.mix (fun _ => False) [1, 3, 13, 48] (by kernel_rfl) (by kernel_rfl) (by kernel_rfl) ?_)))))
      refine .p rfl rfl rfl (fun wx hx => .loadA (n := 3) rfl rfl rfl rfl rfl (B9.ext (Ext.trans (by repeat (first | exact Ext.refl _ | assumption | refine Ext.trans (by assumption) ?_)) hx) (fun x => x)).cells) ?_
      refine .call (first := []) (captured := []) rfl rfl rfl rfl rfl (Check_fn (allOf (tDisk.ext0 D44.rep (by repeat (first | exact Ext.refl _ | assumption | refine Ext.trans (by assumption) ?_))))) (by rintro _ _ ⟨_, hx⟩; exact Ext.trans (by repeat (first | exact Ext.refl _ | assumption | refine Ext.trans (by assumption) ?_)) hx) ?_
      rintro _ w96 ⟨rfl, X96⟩
      have z96 := X96.size
      refine .p rfl rfl rfl (fun wx hx => .loadA (n := 3) rfl rfl rfl rfl rfl (B5.ext (Ext.trans (by repeat (first | exact Ext.refl _ | assumption | refine Ext.trans (by assumption) ?_)) hx) (fun x => x)).cells) ?_
      refine .call (first := []) (captured := []) rfl rfl rfl rfl rfl (refCheck_fn (tDisk.ext0 h (by repeat (first | exact Ext.refl _ | assumption | refine Ext.trans (by assumption) ?_)))) (by rintro _ _ ⟨_, hx⟩; exact Ext.trans (by repeat (first | exact Ext.refl _ | assumption | refine Ext.trans (by assumption) ?_)) hx) ?_
      rintro _ w98 ⟨rfl, X98⟩
      have z98 := X98.size
      refine .p rfl rfl rfl (fun wx hx => .no (.ne rfl rfl) (fun h => h rfl)) ?_
      refine .p rfl rfl rfl (fun wx hx => .mv rfl) ?_
      refine .p rfl rfl rfl (fun wx hx => .mv rfl) ?_
      refine .p rfl rfl rfl (fun wx hx => .mv rfl) ?_
      refine .p rfl rfl rfl (fun wx hx => .no (.ne rfl rfl) (fun h => h rfl)) ?_
      refine .p rfl rfl rfl (fun wx hx => .pickF rfl rfl) ?_
      refine .p rfl rfl rfl (fun wx hx => .mv rfl) ?_
      refine .p rfl rfl rfl (fun wx hx => .loadA (n := 3) rfl rfl rfl rfl rfl (B11.ext (Ext.trans (by repeat (first | exact Ext.refl _ | assumption | refine Ext.trans (by assumption) ?_)) hx) (fun x => x)).cells) ?_
      refine .p rfl rfl rfl (fun wx hx => .loadA (n := 3) rfl rfl rfl rfl rfl (B13.ext (Ext.trans (by repeat (first | exact Ext.refl _ | assumption | refine Ext.trans (by assumption) ?_)) hx) (fun x => x)).cells) ?_
      refine .call (first := []) (captured := []) rfl rfl rfl rfl rfl (refSameT_fn (allOf (tDisk.ext0 R49 (by repeat (first | exact Ext.refl _ | assumption | refine Ext.trans (by assumption) ?_)))) (allOf (tDisk.ext0 R54 (by repeat (first | exact Ext.refl _ | assumption | refine Ext.trans (by assumption) ?_))))) (by rintro _ _ ⟨_, hx⟩; exact Ext.trans (by repeat (first | exact Ext.refl _ | assumption | refine Ext.trans (by assumption) ?_)) hx) ?_
      rintro _ w108 ⟨rfl, X108⟩
      have z108 := X108.size
      refine .p rfl rfl rfl (fun wx hx => .not rfl) ?_
      refine .p rfl rfl rfl (fun wx hx => .pickF rfl rfl) ?_
      refine .p rfl rfl rfl (fun wx hx => .mv rfl) ?_
      refine .p rfl rfl rfl (fun wx hx => .mv rfl) ?_
      refine .p rfl rfl rfl (fun wx hx => .mv rfl) ?_
      refine .p rfl rfl rfl (fun wx hx => .no (.ne rfl rfl) (fun h => h rfl)) ?_
      refine .p rfl rfl rfl (fun wx hx => .pickF rfl rfl) ?_
      refine .p rfl rfl rfl (fun wx hx => .mv rfl) ?_
      refine .p rfl rfl rfl (fun wx hx => .mv rfl) ?_
      refine .p rfl rfl rfl (fun wx hx => .bytesStr rfl (own_all (O60.ext0 (Ext.trans (by repeat (first | exact Ext.refl _ | assumption | refine Ext.trans (by assumption) ?_)) hx))) rfl rfl rfl) ?_
      refine .p rfl rfl rfl (fun wx hx => .mv rfl) ?_
      refine .p rfl rfl rfl (fun wx hx => .bytesStr rfl (own_all (O66.ext0 (Ext.trans (by repeat (first | exact Ext.refl _ | assumption | refine Ext.trans (by assumption) ?_)) hx))) rfl rfl rfl) ?_
      refine .p rfl rfl rfl (fun wx hx => .no (.neS rfl rfl) (fun h => h rfl)) ?_
      refine .p rfl rfl rfl (fun wx hx => .pickF rfl rfl) ?_
      refine .p rfl rfl rfl (fun wx hx => .mv rfl) ?_
      refine .p rfl rfl rfl (fun wx hx => .mv rfl) ?_
      refine .p rfl rfl rfl (fun wx hx => .mv rfl) ?_
      refine .p rfl rfl rfl (fun wx hx => .no (.ne rfl rfl) (fun h => h rfl)) ?_
      refine .p rfl rfl rfl (fun wx hx => .pickF rfl rfl) ?_
      refine .p rfl rfl rfl (fun wx hx => .mv rfl) ?_
      refine .p rfl rfl rfl (fun wx hx => .mv rfl) ?_
      refine .p rfl rfl rfl (fun wx hx => .bytesStr rfl (own_all (O72.ext0 (Ext.trans (by repeat (first | exact Ext.refl _ | assumption | refine Ext.trans (by assumption) ?_)) hx))) rfl rfl rfl) ?_
      refine .p rfl rfl rfl (fun wx hx => .mv rfl) ?_
      refine .p rfl rfl rfl (fun wx hx => .bytesStr rfl (own_all (O78.ext0 (Ext.trans (by repeat (first | exact Ext.refl _ | assumption | refine Ext.trans (by assumption) ?_)) hx))) rfl rfl rfl) ?_
      refine .p rfl rfl rfl (fun wx hx => .no (.neS rfl rfl) (fun h => h rfl)) ?_
      refine .p rfl rfl rfl (fun wx hx => .pickF rfl rfl) ?_
      refine .p rfl rfl rfl (fun wx hx => .mv rfl) ?_
      refine .p rfl rfl rfl (fun wx hx => .mv rfl) ?_
      refine .p rfl rfl rfl (fun wx hx => .mv rfl) ?_
      refine .p rfl rfl rfl (fun wx hx => .no (.ne rfl rfl) (fun h => h rfl)) ?_
      refine .p rfl rfl rfl (fun wx hx => .pickF rfl rfl) ?_
      refine .p rfl rfl rfl (fun wx hx => .mv rfl) ?_
      refine .p rfl rfl rfl (fun wx hx => .loadA (n := 3) rfl rfl rfl rfl rfl (B23.ext (Ext.trans (by repeat (first | exact Ext.refl _ | assumption | refine Ext.trans (by assumption) ?_)) hx) (fun x => x)).cells) ?_
      refine .p rfl rfl rfl (fun wx hx => .loadA (n := 3) rfl rfl rfl rfl rfl (B25.ext (Ext.trans (by repeat (first | exact Ext.refl _ | assumption | refine Ext.trans (by assumption) ?_)) hx) (fun x => x)).cells) ?_
      refine .call (first := []) (captured := []) rfl rfl rfl rfl rfl (refSameT_fn (allOf (tDisk.ext0 D85.rep (by repeat (first | exact Ext.refl _ | assumption | refine Ext.trans (by assumption) ?_)))) (allOf (tDisk.ext0 R92 (by repeat (first | exact Ext.refl _ | assumption | refine Ext.trans (by assumption) ?_))))) (by rintro _ _ ⟨_, hx⟩; exact Ext.trans (by repeat (first | exact Ext.refl _ | assumption | refine Ext.trans (by assumption) ?_)) hx) ?_
      rintro _ w143 ⟨rfl, X143⟩
      have z143 := X143.size
      refine .p rfl rfl rfl (fun wx hx => .not rfl) ?_
      refine .p rfl rfl rfl (fun wx hx => .pickF rfl rfl) ?_
      refine .nil (.code (.keep [(145, _), (23, _), (19, _), (15, _), (10, _), (9, _), (3, _), (5, _)] ⟨rfl, rfl, rfl, rfl, rfl, rfl, rfl, rfl, trivial⟩ (.condF rfl (.skip (.code (.seq (.seq (.keep [(23, _), (19, _), (15, _), (10, _), (9, _), (3, _), (5, _)] ⟨rfl, rfl, rfl, rfl, rfl, rfl, rfl, trivial⟩ (.region ?_)))))))))
      refine .p rfl rfl (.as rfl) ?_
      refine .nil (.code (.block ?_))
      refine .loop (S := Nat × World) (fun s => [(3, .slice ab b.length capb), (5, .pointer (some ⟨w.heap.size, 0, none⟩)), (9, .pointer (some ⟨w46.heap.size, 0, none⟩)), (10, .slice a46 b.length c46), (15, .slice a60 lp.length c60), (19, .slice a72 lr.length c72), (23, .pointer (some ⟨w85.heap.size, 0, none⟩)), (27, i64 s.1)]) (fun s => s.2) (fun s => s.1 ≤ lp.length ∧ WrB s.2 (fun k => w6.heap.size ≤ k ∧ k < w60.heap.size) (.slice a60 lp.length c60) lp.length ∧ WrB s.2 (fun k => w66.heap.size ≤ k ∧ k < w72.heap.size) (.slice a72 lr.length c72) lr.length ∧ Ext (fun k => (w6.heap.size ≤ k ∧ k < w60.heap.size) ∨ (w66.heap.size ≤ k ∧ k < w72.heap.size)) w143 s.2) (fun s => lp.length - s.1) (0, w143) ⟨rfl, rfl, rfl, rfl, rfl, rfl, rfl, rfl, trivial⟩ rfl ⟨Nat.zero_le _, hWp.ext (by repeat (first | exact Ext.refl _ | assumption | refine Ext.trans (by assumption) ?_)) (fun _ _ h => h), hWr.ext (by repeat (first | exact Ext.refl _ | assumption | refine Ext.trans (by assumption) ?_)) (fun _ _ h => h), .refl _⟩ ?_
      rintro ⟨i, wi⟩ J ⟨hi', hWpi, hWri, hX⟩ again
      simp only at hi' hWpi hWri hX
      change G _ _ _ _ wi
      refine .seq (.seq ?_)
      refine .meet (S := Bool) (fun s => [(3, .slice ab b.length capb), (5, .pointer (some ⟨w.heap.size, 0, none⟩)), (9, .pointer (some ⟨w46.heap.size, 0, none⟩)), (10, .slice a46 b.length c46), (15, .slice a60 lp.length c60), (19, .slice a72 lr.length c72), (23, .pointer (some ⟨w85.heap.size, 0, none⟩)), (27, i64 i), (155, .bool s)]) (fun s => wi) (fun s => s = true → i < lp.length ∧ i < lr.length) ?_ ?_
      · rintro q hq
        refine .code ?_
        refine .cond rfl (fun c155 => ?_) (fun c155 => ?_)
        · obtain ⟨h1, h2⟩ := hq c155
          obtain ⟨bp, ds1, rfl, hQp, hBp, hpl⟩ := hWpi.blk h1
          obtain ⟨br, ds2, rfl, hQr, hBr, hrl⟩ := hWri.blk h2
          have hpr : ¬ br = bp := by have h3 := hQp.2; have h4 := hQr.1; omega
          have hlp1 := O60.lim
          simp only [Lim] at hlp1
          refine .skip (.code (.seq (.block (.keep [(3, _), (5, _), (9, _), (10, _), (15, _), (19, _), (23, _), (27, _)] ⟨rfl, rfl, rfl, rfl, rfl, rfl, rfl, rfl, trivial⟩ (.region ?_)))))
          refine .p rfl rfl (.mv rfl) ?_
          refine .p rfl rfl (.mv rfl) ?_
          refine .p rfl rfl (.mv rfl) ?_
          refine .p rfl rfl (.mv rfl) ?_
          refine .p rfl rfl (.cast (.indexAddr1 rfl rfl rfl rfl (by omega)) (show _ = Value.pointer (some ⟨bp, i, none⟩) by simp)) ?_
          refine .s rfl (.store rfl rfl rfl rfl rfl hBp hpl) ?_
          intro wp Pp
          refine .p rfl rfl (.cast (.indexAddr1 rfl rfl rfl rfl (by omega)) (show _ = Value.pointer (some ⟨br, i, none⟩) by simp)) ?_
          refine .s rfl (.store rfl rfl rfl rfl rfl (hBr.ext Pp.ext hpr) hrl) ?_
          intro wr Pr
          refine .nil (.blk (.code (.keep [(3, _), (5, _), (9, _), (10, _), (15, _), (19, _), (23, _), (27, _)] ⟨rfl, rfl, rfl, rfl, rfl, rfl, rfl, rfl, trivial⟩ (.region ?_))))
          refine .p rfl rfl (.mv rfl) ?_
          refine .p rfl rfl (.add rfl rfl (by omega)) ?_
          refine .p rfl rfl (.as rfl) ?_
          refine .nil ?_
          exact (again (i + 1, wr) ⟨by show i + 1 ≤ _; omega, (hWpi.put hBp Pp).put (hBr.ext Pp.ext hpr) Pr, (hWri.put hBp Pp).put (hBr.ext Pp.ext hpr) Pr, (hX.trans (Pp.ext.mono (by rintro k _ rfl; exact .inl hQp))).trans (Pr.ext.mono (by rintro k _ rfl; exact .inr hQr))⟩ (by show _ - (i + 1) < _ - i; omega)).of ⟨rfl, rfl, rfl, rfl, rfl, rfl, rfl, rfl, trivial⟩
        · refine .exit rfl (.code (.seq (.keep [(3, _), (5, _), (9, _), (10, _), (23, _)] ⟨rfl, rfl, rfl, rfl, rfl, trivial⟩ (.region ?_))))
          refine .p rfl rfl (.loadA (n := 3) rfl rfl rfl rfl rfl ((B23.ext (by repeat (first | exact Ext.refl _ | assumption | refine Ext.trans (by assumption) ?_)) (fun x => x)).ext hX (by rintro (h | h) <;> omega)).cells) ?_
          refine .call (first := []) (captured := []) rfl rfl rfl rfl (spoil_fn ((D85.ext0 (by repeat (first | exact Ext.refl _ | assumption | refine Ext.trans (by assumption) ?_))).ext hX (fun k h hlt => by have h : w78.heap.size ≤ k := h; rintro (h | h) <;> omega))) ?_
          rintro _ w165 ⟨rfl, X165⟩
          have z165 := X165.size
          refine .nil (.code (.seq (.keep [(3, _), (5, _), (9, _), (10, _)] ⟨rfl, rfl, rfl, rfl, trivial⟩ (.region ?_))))
          refine .p rfl rfl (.loadA (n := 3) rfl rfl rfl rfl rfl (((B9.ext (by repeat (first | exact Ext.refl _ | assumption | refine Ext.trans (by assumption) ?_)) (fun x => x)).ext hX (by rintro (h | h) <;> omega)).ext X165 (by rintro ⟨h, _⟩; have h : w78.heap.size ≤ w46.heap.size := h; omega)).cells) ?_
          refine .p rfl rfl (.loadA (n := 3) rfl rfl rfl rfl rfl (((B5.ext (by repeat (first | exact Ext.refl _ | assumption | refine Ext.trans (by assumption) ?_)) (fun x => x)).ext hX (by rintro (h | h) <;> omega)).ext X165 (by rintro ⟨h, _⟩; have h : w78.heap.size ≤ w.heap.size := h; omega)).cells) ?_
          refine .call (first := []) (captured := []) rfl rfl rfl rfl (refSameT_fn (allOf (tDisk.ext (tDisk.ext (tDisk.ext0 R44 (by repeat (first | exact Ext.refl _ | assumption | refine Ext.trans (by assumption) ?_))) hX (fun k hk _ => by rintro (h | h) <;> omega)) X165 (fun k hk _ => by rintro ⟨h, _⟩; have h : w78.heap.size ≤ k := h; omega))) (allOf (tDisk.ext (tDisk.ext (tDisk.ext0 R5 (by repeat (first | exact Ext.refl _ | assumption | refine Ext.trans (by assumption) ?_))) hX (fun k hk _ => by rintro (h | h) <;> omega)) X165 (fun k hk _ => by rintro ⟨h, _⟩; have h : w78.heap.size ≤ k := h; omega)))) ?_
          rintro _ w168 ⟨rfl, X168⟩
          refine .p rfl rfl (.mv rfl) ?_
          refine .p rfl rfl (.mv rfl) ?_
          refine .p rfl rfl (.bytesStr rfl (tBytes.ext0 (allOf (tBytes.ext (tBytes.ext (tBytes.ext0 R46 (by repeat (first | exact Ext.refl _ | assumption | refine Ext.trans (by assumption) ?_))) hX (fun k hk _ => by rintro (h | h) <;> omega)) X165 (fun k hk _ => by rintro ⟨h, _⟩; have h : w78.heap.size ≤ k := h; omega))) X168) rfl rfl rfl) ?_
          refine .p rfl rfl (.mv rfl) ?_
          refine .p rfl rfl (.bytesStr rfl (tBytes.ext0 (allOf (tBytes.ext (tBytes.ext (tBytes.ext0 Rb (by repeat (first | exact Ext.refl _ | assumption | refine Ext.trans (by assumption) ?_))) hX (fun k hk _ => by rintro (h | h) <;> omega)) X165 (fun k hk _ => by rintro ⟨h, _⟩; have h : w78.heap.size ≤ k := h; omega))) X168) rfl rfl rfl) ?_
          refine .p rfl rfl (.yes (.eqS rfl rfl) (rfl)) ?_
          refine .p rfl rfl (.pickT rfl rfl) ?_
          refine .p rfl rfl (.as rfl) ?_
          refine .nil (.code ?_)
          refine .ret _ rfl ?_
          have Zf : Ext (fun _ => False) w w143 := (by repeat (first | exact Ext.refl _ | assumption | refine Ext.trans (by assumption) ?_))
          exact ⟨rfl, ((Zf.then hX (by rintro k (h | h) _ <;> omega)).then X165 (by rintro k ⟨h, _⟩ _; have h : w78.heap.size ≤ k := h; omega)).trans X168⟩
      · intro meet
        refine .region ?_
        refine .p rfl rfl (.mv rfl) ?_
        refine .p rfl rfl (.mv rfl) ?_
        refine .p rfl rfl (.len rfl rfl) ?_
        refine .p rfl rfl (.lt rfl rfl) ?_
        refine .p rfl rfl (.mv rfl) ?_
        refine .caseD 150 rfl (fun c150 => ?_) (fun c150 => ?_)
        · refine .p rfl rfl (.mv rfl) ?_
          refine .p rfl rfl (.mv rfl) ?_
          refine .p rfl rfl (.len rfl rfl) ?_
          refine .p rfl rfl (.lt rfl rfl) ?_
          refine .p rfl rfl (.pickT rfl rfl) ?_
          refine .nil ?_
          exact (meet _ (by intro hf; first | (have hf := of_decide_eq_true hf; constructor <;> omega) | (cases hf; done))).of ⟨rfl, rfl, rfl, rfl, rfl, rfl, rfl, rfl, rfl, trivial⟩
        · refine .skip rfl rfl ?_
          refine .skip rfl rfl ?_
          refine .skip rfl rfl ?_
          refine .skip rfl rfl ?_
          refine .p rfl rfl (.pickF rfl rfl) ?_
          refine .nil ?_
          exact (meet _ (by intro hf; first | (have hf := of_decide_eq_true hf; constructor <;> omega) | (cases hf; done))).of ⟨rfl, rfl, rfl, rfl, rfl, rfl, rfl, rfl, rfl, trivial⟩
  · intro meet
    refine .region ?_
    refine .p rfl rfl (.loadA (n := 3) rfl rfl rfl rfl rfl N5.blk.cells) ?_
    refine .call (first := []) (captured := []) rfl rfl rfl rfl (large_fn (tDisk.ext0 h X5)) ?_
    rintro _ w29 ⟨rfl, X29⟩
    have z29 := X29.size
    refine .p rfl rfl (.mv rfl) ?_
    refine .case 30 rfl (fun c30 => ?_) (fun c30 => ?_)
    · refine .skip rfl rfl ?_
      refine .skip rfl rfl ?_
      refine .skip rfl rfl ?_
      refine .p rfl rfl (.pickT rfl rfl) ?_
      refine .p rfl rfl (.mv rfl) ?_
      refine .skip rfl rfl ?_
      refine .skip rfl rfl ?_
      refine .skip rfl rfl ?_
      refine .skip rfl rfl ?_
      refine .skip rfl rfl ?_
      refine .skip rfl rfl ?_
      refine .p rfl rfl (.pickT rfl rfl) ?_
      refine .nil ?_
      exact (meet (_, w29) ⟨X29, by intro hf; first | (cases hf; done) | exact ⟨c30, by omega⟩⟩).of ⟨rfl, rfl, rfl, rfl, rfl, trivial⟩
    · refine .p rfl rfl (.mv rfl) ?_
      refine .p rfl rfl (.len rfl rfl) ?_
      refine .p rfl rfl (.gt rfl rfl) ?_
      refine .p rfl rfl (.pickF rfl rfl) ?_
      refine .p rfl rfl (.mv rfl) ?_
      refine .caseD 35 rfl (fun c35 => ?_) (fun c35 => ?_)
      · refine .skip rfl rfl ?_
        refine .skip rfl rfl ?_
        refine .skip rfl rfl ?_
        refine .skip rfl rfl ?_
        refine .skip rfl rfl ?_
        refine .skip rfl rfl ?_
        refine .p rfl rfl (.pickT rfl rfl) ?_
        refine .nil ?_
        exact (meet (_, w29) ⟨X29, by intro hf; first | (cases hf; done) | exact ⟨c30, by omega⟩⟩).of ⟨rfl, rfl, rfl, rfl, rfl, trivial⟩
      · refine .p rfl rfl (.mv rfl) ?_
        refine .p rfl rfl (.gt rfl rfl) ?_
        refine .p rfl rfl (.mv rfl) ?_
        refine .caseD 38 rfl (fun c38 => ?_) (fun c38 => ?_)
        · refine .p rfl rfl (.mv rfl) ?_
          refine .p rfl rfl (.le rfl rfl) ?_
          refine .p rfl rfl (.pickT rfl rfl) ?_
          refine .p rfl rfl (.pickF rfl rfl) ?_
          refine .nil ?_
          exact (meet (_, w29) ⟨X29, by intro hf; first | (cases hf; done) | exact ⟨c30, by omega⟩⟩).of ⟨rfl, rfl, rfl, rfl, rfl, trivial⟩
        · refine .skip rfl rfl ?_
          refine .skip rfl rfl ?_
          refine .p rfl rfl (.pickF rfl rfl) ?_
          refine .p rfl rfl (.pickF rfl rfl) ?_
          refine .nil ?_
          exact (meet (_, w29) ⟨X29, by intro hf; first | (cases hf; done) | exact ⟨c30, by omega⟩⟩).of ⟨rfl, rfl, rfl, rfl, rfl, trivial⟩
end Go.Proofs.Ytfgjpiemnfefmaa
