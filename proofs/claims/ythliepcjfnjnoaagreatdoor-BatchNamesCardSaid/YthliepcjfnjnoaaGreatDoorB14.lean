import Derived.Test.YthliepcjfnjnoaaGreatDoorB13
import Derived.Test.YthliepcjfnjnoaaGreatDoorB04
import Derived.Test.YthliepcjfnjnoaaGreatDoorB07
import Derived.Test.YthliepcjfnjnoaaGreatDoorB11
set_option linter.unusedVariables false
set_option linter.unusedSimpArgs false
set_option maxRecDepth 20000
namespace Go.Proofs.YthliepcjfnjnoaaGreatDoor
open Go disk log
theorem sector_fn {w : World} {v : Value} {d : Disk} {n : Int} (h : tDisk.rep All w v d) (hA : askedF d n = 0) : Fn Tryz.prog 52 [v, i64 n] w (fun r w2 => ∃ b, Own tByte (fun _ => False) 5 w2 r (readF d n) b ∧ w.heap.size ≤ b ∧ Ext (fun _ => False) w w2) := by
  obtain ⟨u, u', rfl, hd, hw, hc1, hc2⟩ := tDisk.val h
  refine Fn.enter (fun w => Tryz.call52 _ w) Tryz.func52 rfl ?_
  refine .seq (.region ?_)
  refine .v rfl rfl (.box rfl) ?_
  rintro _ w2 ⟨rfl, N2⟩
  refine .p rfl rfl (.as rfl) ?_
  refine .nil (.code (.seq (.keep [(2, _), (1, _)] ⟨rfl, rfl, trivial⟩ (.region ?_))))
  refine .p rfl rfl (.loadA (n := 3) rfl rfl rfl rfl rfl N2.blk.cells) ?_
  refine .p rfl rfl (.mv rfl) ?_
  refine .call (first := []) (captured := []) rfl rfl rfl rfl (DiskRead_fn (n := n) (tDisk.ext0 h N2.ext)) ?_
  rintro _ w10 ⟨s10, b10, rfl, O10, hb10, X10⟩
  rw [if_pos hA] at O10
  have z2 := N2.size
  refine .p rfl rfl (.mv rfl) ?_
  refine .p rfl rfl (.extract rfl rfl) ?_
  refine .p rfl rfl (.extract rfl rfl) ?_
  refine .p rfl rfl (.as rfl) ?_
  refine .p rfl rfl (.as rfl) ?_
  refine .nil (.code (.seq (.keep [(5, _)] ⟨rfl, trivial⟩ (.region ?_))))
  refine .p rfl rfl (.mv rfl) ?_
  refine .p rfl rfl (.as rfl) ?_
  refine .nil (.code ?_)
  refine .ret _ rfl ?_
  exact ⟨b10, O10, by omega, N2.ext.trans X10⟩
theorem epochOf_fn {w : World} {v : Value} {d : Disk} (h : tDisk.rep All w v d) (hck : checkF d = 0) (hct : 80 ≤ d.count) : Fn Tryz.prog 50 [v] w (fun r w2 => r = u32 (headF d) ∧ Ext (fun _ => False) w w2) := by
  obtain ⟨u, u', rfl, hd, hw, hc1, hc2⟩ := tDisk.val h
  have hl := readF_length hck (n := 16) (by omega) (by omega)
  refine Fn.enter (fun w => Tryz.call50 _ w) Tryz.func50 rfl ?_
  refine .seq (.region ?_)
  refine .v rfl rfl (.box rfl) ?_
  rintro _ w1 ⟨rfl, N1⟩
  refine .p rfl rfl (.as rfl) ?_
  refine .nil (.code (.seq (.keep [(1, _)] ⟨rfl, trivial⟩ (.region ?_))))
  refine .p rfl rfl (.loadA (n := 3) rfl rfl rfl rfl rfl N1.blk.cells) ?_
  refine .call (first := []) (captured := []) rfl rfl rfl rfl (sector_fn (tDisk.ext0 h N1.ext) (asked_in hck (n := 16) (by omega) (by omega))) ?_
  rintro r7 w7 ⟨b7, O7, hb7, X7⟩
  have R7 : tBytes.rep All w7 r7 (readF d 16) := O7.rep trivial (fun _ h _ => h.elim)
  obtain ⟨a7, cap7, rfl, hc7⟩ := Sl.val R7
  rw [hl] at R7 hc7 ⊢
  have R10 := Sl.cut R7 0 8 (by omega) (by omega)
  have R18 := Sl.cut R7 8 128 (by omega) (by omega)
  have hl10 : (((readF d 16).take 8).drop 0).length = 8 := by simp [hl]
  have X1 := N1.ext.trans X7
  refine .p rfl rfl (.as rfl) ?_
  refine .nil (.code (.seq (.keep [(3, _)] ⟨rfl, trivial⟩ (.region ?_))))
  refine .p rfl rfl (.mv rfl) ?_
  refine .p rfl rfl (.cutHi (s := 1) rfl rfl rfl rfl (by omega)) ?_
  refine .call (first := []) (captured := []) rfl rfl rfl rfl (Get_fn R10) ?_
  rintro _ w11 ⟨rfl, X11⟩
  rw [if_pos hl10, if_pos hl10, List.drop_zero]
  have hn9 := getTo_bd ((readF d 16).take 8) (i := 8) (by omega)
  change getTo ((readF d 16).take 8) 8 < _ at hn9
  rw [show getTo ((readF d 16).take 8) 8 = headN d from rfl] at hn9 ⊢
  refine .p rfl rfl (.mv rfl) ?_
  refine .p rfl rfl (.extract rfl rfl) ?_
  refine .p rfl rfl (.extract rfl rfl) ?_
  refine .p rfl rfl (.as rfl) ?_
  refine .p rfl rfl (.as rfl) ?_
  refine .nil (.code (.seq (.seq (.keep [(4, _), (3, _)] ⟨rfl, rfl, trivial⟩ (.mix (fun _ => False) [5, 6] (by kernel_rfl) (by kernel_rfl) (by kernel_rfl) ?_)))))
  refine .p rfl rfl rfl (fun wx hx => .mv rfl) ?_
  refine .p rfl rfl rfl (fun wx hx => .gt rfl rfl) ?_
  refine .p rfl rfl rfl (fun wx hx => .mv rfl) ?_
  refine .caseD 16 rfl (fun c16 => ?_) (fun c16 => ?_)
  · refine .skip rfl rfl ?_
    refine .skip rfl rfl ?_
    refine .skip rfl rfl ?_
    refine .skip rfl rfl ?_
    refine .skip rfl rfl ?_
    refine .p rfl rfl rfl (fun wx hx => .pickT rfl rfl) ?_
    refine .nil (.code (.keep [(22, _), (4, _)] ⟨rfl, rfl, trivial⟩ (.condT rfl (.seq (.keep [] trivial (.region ?_))))))
    refine .p rfl rfl (.as rfl) ?_
    refine .nil (.code ?_)
    refine .ret _ rfl ?_
    have e : headF d = 0 := by unfold headF; rw [if_neg (by omega)]
    rw [e]
    exact ⟨rfl, X1.trans X11⟩
  · refine .p rfl rfl rfl (fun wx hx => .mv rfl) ?_
    refine .p rfl rfl rfl (fun wx hx => .cutLo (s := 1) rfl rfl rfl rfl (by omega)) ?_
    refine .v rfl rfl rfl (.make (eb := 1) rfl rfl rfl rfl rfl rfl rfl rfl (by omega)) (by rintro _ _ ⟨_, hN⟩; exact hN.ext) ?_
    rintro _ w19 ⟨rfl, N19⟩
    refine .call (first := []) (captured := []) rfl rfl rfl rfl rfl (bytesEqual_fn (tBytes.ext0 R18 (X11.trans N19.ext)) (zeros_own (Q := All) N19 (by decide) rfl trivial)) (by rintro _ _ ⟨_, hX⟩; exact N19.ext.trans hX) ?_
    rintro _ w20 ⟨rfl, X20⟩
    rw [show ((readF d 16).take 128).drop 8 = (readF d 16).drop 8 by rw [List.take_of_length_le (by omega)]]
    refine .p rfl rfl rfl (fun wx hx => .notD rfl) ?_
    refine .p rfl rfl rfl (fun wx hx => .pickF rfl rfl) ?_
    refine .nil (.code (.keep [(22, _), (4, _)] ⟨rfl, rfl, trivial⟩ ?_))
    refine .condD rfl (fun c22 => ?_) (fun c22 => ?_)
    · refine .seq (.keep [] trivial (.region ?_))
      refine .p rfl rfl (.as rfl) ?_
      refine .nil (.code ?_)
      refine .ret _ rfl ?_
      have e : headF d = 0 := by unfold headF; rw [if_neg (fun hh => c22 hh.2)]
      rw [e]
      exact ⟨rfl, X1.trans (X11.trans (N19.ext.trans X20))⟩
    · refine .skip (.code (.seq (.keep [(4, _)] ⟨rfl, trivial⟩ (.region ?_))))
      refine .p rfl rfl (.mv rfl) ?_
      refine .p rfl rfl (.convW rfl rfl rfl (by omega)) ?_
      refine .p rfl rfl (.as rfl) ?_
      refine .nil (.code ?_)
      refine .ret _ rfl ?_
      have e : headF d = UInt32.ofNat (headN d) := by unfold headF; rw [if_pos ⟨by omega, Decidable.byContradiction c22⟩]
      rw [e]
      exact ⟨rfl, X1.trans (X11.trans (N19.ext.trans X20))⟩
theorem there_fn {w : World} {v : Value} {d : Disk} (h : tDisk.rep All w v d) : Fn Tryz.prog 49 [v] w (fun r w2 => r = i64 (thereF d) ∧ Ext (fun _ => False) w w2) := by
  obtain ⟨u, u', rfl, hd, hw, hc1, hc2⟩ := tDisk.val h
  refine Fn.enter (fun w => Tryz.call49 _ w) Tryz.func49 rfl ?_
  refine .seq (.region ?_)
  refine .v rfl rfl (.box rfl) ?_
  rintro _ w1 ⟨rfl, N1⟩
  refine .p rfl rfl (.as rfl) ?_
  refine .nil (.code (.seq (.seq (.keep [(1, _)] ⟨rfl, trivial⟩ (.region ?_)))))
  refine .p rfl rfl (.loadA (n := 3) rfl rfl rfl rfl rfl N1.blk.cells) ?_
  refine .call (first := []) (captured := []) rfl rfl rfl rfl (Check_fn (tDisk.ext0 h N1.ext)) ?_
  rintro _ w5 ⟨rfl, X5⟩
  have B5 := N1.blk.ext X5 (fun x => x)
  refine .p rfl rfl (.as rfl) ?_
  refine .nil (.code (.seq (.keep [(3, _), (1, _)] ⟨rfl, rfl, trivial⟩ (.region ?_))))
  refine .p rfl rfl (.mv rfl) ?_
  refine .p rfl rfl (.ne rfl rfl) ?_
  refine .nil (.code (.keep [(7, _), (3, _), (1, _)] ⟨rfl, rfl, rfl, trivial⟩ ?_))
  refine .condD rfl (fun c7 => ?_) (fun c7 => ?_)
  · refine .seq (.keep [(3, _)] ⟨rfl, trivial⟩ (.region ?_))
    refine .p rfl rfl (.mv rfl) ?_
    refine .p rfl rfl (.as rfl) ?_
    refine .nil (.code ?_)
    refine .ret _ rfl ?_
    exact ⟨by unfold thereF; rw [if_pos c7]; rfl, N1.ext.trans X5⟩
  · refine .skip (.code (.seq (.seq (.keep [(1, _)] ⟨rfl, trivial⟩ (.region ?_)))))
    refine .p rfl rfl (.fieldAddr rfl rfl rfl rfl) ?_
    refine .p rfl rfl (.load rfl rfl rfl (B5.cell 0)) ?_
    refine .p rfl rfl (.lt rfl rfl) ?_
    refine .nil (.code (.keep [(11, _)] ⟨rfl, trivial⟩ ?_))
    refine .condD rfl (fun c11 => ?_) (fun c11 => ?_)
    · refine .seq (.keep [] trivial (.region ?_))
      refine .p rfl rfl (.as rfl) ?_
      refine .nil (.code ?_)
      refine .ret _ rfl ?_
      exact ⟨by unfold thereF; rw [if_neg c7, if_pos (by omega)]; rfl, N1.ext.trans X5⟩
    · refine .skip (.code (.seq (.keep [] trivial (.region ?_))))
      refine .p rfl rfl (.as rfl) ?_
      refine .nil (.code ?_)
      refine .ret _ rfl ?_
      exact ⟨by unfold thereF; rw [if_neg c7, if_neg (by omega)]; rfl, N1.ext.trans X5⟩
end Go.Proofs.YthliepcjfnjnoaaGreatDoor
namespace Go.Proofs.YthliepcjfnjnoaaGreatDoor
open Go disk log
theorem logread_fn {w : World} {v : Value} {d : Disk} (h : tDisk.rep All w v d) : Fn Tryz.prog 83 [v] w (fun r w2 => ∃ p v, r = .tuple #[.pointer (some ⟨p, 0, none⟩), i64 (stateF d).2] ∧ Blk w2 p 161 [u32 (stateF d).1.epoch, u32 (stateF d).1.last, v, i64 ((stateF d).1.at' : Nat)] ∧ tStrs.rep (fun k => w.heap.size ≤ k) w2 v (stateF d).1.recs ∧ w.heap.size ≤ p ∧ Ext (fun _ => False) w w2) := by
  obtain ⟨u, u', rfl, hd, hw, hc1, hc2⟩ := tDisk.val h
  refine Fn.enter (fun w => Tryz.call83 _ w) Tryz.func83 rfl ?_
  refine .seq (.region ?_)
  refine .v rfl rfl (.box rfl) ?_
  rintro _ w1 ⟨rfl, N1⟩
  refine .p rfl rfl (.as rfl) ?_
  refine .p rfl rfl (.as rfl) ?_
  refine .nil (.code (.seq (.seq (.keep [(1, _)] ⟨rfl, trivial⟩ (.region ?_)))))
  refine .p rfl rfl (.loadA (n := 3) rfl rfl rfl rfl rfl N1.blk.cells) ?_
  refine .call (first := []) (captured := []) rfl rfl rfl rfl (there_fn (tDisk.ext0 h N1.ext)) ?_
  rintro _ w13 ⟨rfl, X13⟩
  have X1 := N1.ext.trans X13
  have B1 := N1.blk.ext X13 (fun x => x)
  refine .p rfl rfl (.as rfl) ?_
  refine .nil (.code (.seq (.keep [(4, _), (1, _)] ⟨rfl, rfl, trivial⟩ (.region ?_))))
  refine .p rfl rfl (.mv rfl) ?_
  refine .p rfl rfl (.ne rfl rfl) ?_
  refine .nil (.code (.keep [(15, _), (4, _), (1, _)] ⟨rfl, rfl, rfl, trivial⟩ ?_))
  refine .condD rfl (fun c15 => ?_) (fun c15 => ?_)
  · refine .seq (.keep [(4, _)] ⟨rfl, trivial⟩ (.region ?_))
    refine .p rfl rfl (.build (cs := [u32 0, u32 0, .slice none 0 0, i64 0]) rfl (fun _ => by kernel_rfl)) ?_
    refine .v rfl rfl (.box rfl) ?_
    rintro _ w17 ⟨rfl, N17⟩
    refine .p rfl rfl (.mv rfl) ?_
    refine .p rfl rfl (.as rfl) ?_
    refine .p rfl rfl (.as rfl) ?_
    refine .nil (.code ?_)
    refine .ret _ rfl ?_
    rw [state_there c15]
    exact ⟨_, _, rfl, N17.blk, Sl.nil, by have := X1.size; omega, X1.trans N17.ext⟩
  · have hth : thereF d = 0 := Decidable.byContradiction c15
    obtain ⟨hck, hct⟩ := there_ok hth
    refine .skip (.code (.seq (.keep [(1, _)] ⟨rfl, trivial⟩ (.region ?_))))
    refine .p rfl rfl (.loadA (n := 3) rfl rfl rfl rfl rfl B1.cells) ?_
    refine .call (first := []) (captured := []) rfl rfl rfl rfl (epochOf_fn (tDisk.ext0 h X1) hck hct) ?_
    rintro _ w20 ⟨rfl, X20⟩
    have X2 := X1.trans X20
    refine .p rfl rfl (.build (cs := [u32 (headF d), u32 0, .slice none 0 0, i64 0]) rfl (fun _ => by kernel_rfl)) ?_
    refine .v rfl rfl (.box rfl) ?_
    rintro _ w22 ⟨rfl, N22⟩
    refine .p rfl rfl (.as rfl) ?_
    refine .nil (.code (.seq (.seq (.keep [(5, _), (1, _)] ⟨rfl, rfl, trivial⟩ (.region ?_)))))
    refine .p rfl rfl (.mv rfl) ?_
    refine .p rfl rfl (.nilCheck rfl) ?_
    refine .p rfl rfl (.fieldAddr rfl rfl rfl rfl) ?_
    refine .p rfl rfl (.load rfl rfl rfl (N22.blk.cell 0)) ?_
    refine .p rfl rfl (.eq rfl rfl) ?_
    refine .nil (.code (.keep [(27, _), (5, _), (1, _)] ⟨rfl, rfl, rfl, trivial⟩ ?_))
    refine .condD rfl (fun c27 => ?_) (fun c27 => ?_)
    · refine .seq (.keep [] trivial (.region ?_))
      refine .p rfl rfl (.build (cs := [u32 0, u32 0, .slice none 0 0, i64 0]) rfl (fun _ => by kernel_rfl)) ?_
      refine .v rfl rfl (.box rfl) ?_
      rintro _ w29 ⟨rfl, N29⟩
      refine .p rfl rfl (.as rfl) ?_
      refine .p rfl rfl (.as rfl) ?_
      refine .nil (.code ?_)
      refine .ret _ rfl ?_
      rw [state_head hth ((u32_zero _).1 c27)]
      exact ⟨_, _, rfl, N29.blk, Sl.nil, by have := X2.size; have := N22.size; omega, X2.trans (N22.ext.trans N29.ext)⟩
    · have hh : ¬ headF d = 0 := fun e => c27 ((u32_zero _).2 e)
      have z22 := N22.size
      have z20 := X20.size
      refine .skip (.code (.seq (.keep [(5, _), (1, _)] ⟨rfl, rfl, trivial⟩ (.region ?_))))
      refine .p rfl rfl (.as rfl) ?_
      refine .nil (.code (.seq (.seq (.region ?_))))
      refine .p rfl rfl (.as rfl) ?_
      refine .nil (.code (.block ?_))
      refine .loop (S := Nat × World × Value × Nat) (fun s => [(1, .pointer (some ⟨w.heap.size, 0, none⟩)), (5, .pointer (some ⟨w20.heap.size, 0, none⟩)), (6, s.2.2.1), (7, i64 ((17 + s.1 : Nat) : Int))]) (fun s => s.2.1) (fun s => s.1 ≤ 63 ∧ Own tByte (fun _ => False) 5 s.2.1 s.2.2.1 (bodyTo d s.1) s.2.2.2 ∧ Ext (fun _ => False) w22 s.2.1 ∧ w22.heap.size ≤ s.2.2.2) (fun s => 63 - s.1) (0, w22, .slice none 0 0, w22.heap.size) ⟨rfl, rfl, rfl, rfl, trivial⟩ rfl ⟨Nat.zero_le _, Own.nil, .refl _, Nat.le_refl _⟩ ?_
      rintro ⟨i, wi, vo, bo⟩ J ⟨hi', hO, hX, hbo⟩ again
      simp only at hi' hO hX hbo
      change G _ [(1, .pointer (some ⟨w.heap.size, 0, none⟩)), (5, .pointer (some ⟨w20.heap.size, 0, none⟩)), (6, vo), (7, i64 ((17 + i : Nat) : Int))] _ _ wi
      refine .seq (.seq (.region ?_))
      refine .p rfl rfl (.mv rfl) ?_
      refine .p rfl rfl (.lt rfl rfl) ?_
      refine .nil (.code (.keep [(31, _), (1, _), (5, _), (6, _), (7, _)] ⟨rfl, rfl, rfl, rfl, rfl, trivial⟩ ?_))
      refine .condD rfl (fun c31 => ?_) (fun c31 => ?_)
      · have hi : i < 63 := by omega
        have hbl := bodyTo_length hck hct (k := i) (by omega)
        have hrl := readF_length hck (n := ((17 + i : Nat) : Int)) (by omega) (by omega)
        refine .skip (.code (.seq (.block (.keep [(1, _), (5, _), (6, _), (7, _)] ⟨rfl, rfl, rfl, rfl, trivial⟩ (.region ?_)))))
        refine .p rfl rfl (.mv rfl) ?_
        refine .p rfl rfl (.loadA (n := 3) rfl rfl rfl rfl rfl (B1.ext (X20.trans (N22.ext.trans hX)) (fun x => x)).cells) ?_
        refine .p rfl rfl (.mv rfl) ?_
        refine .call (first := []) (captured := []) rfl rfl rfl rfl (sector_fn (tDisk.ext0 h (X2.trans (N22.ext.trans hX))) (asked_in hck (by omega) (by omega))) ?_
        rintro r37 w37 ⟨b37, O37, hb37, X37⟩
        have R37 : tBytes.rep All w37 r37 (readF d ((17 + i : Nat) : Int)) := O37.rep trivial (fun _ h _ => h.elim)
        have hO37 := hO.ext0 X37
        have z37 := X37.size
        refine .v rfl rfl (.append (t := tByte) (eb := 1) rfl hO37 rfl (Sl.holds R37 (fun _ _ h => h)) rfl rfl rfl rfl rfl rfl rfl (by rw [hbl, hrl]; omega) (by rw [hbl, hrl]; simp only [Lim]; omega) (fun _ h _ => h.elim)) ?_
        rintro v38 w38 ⟨b38, O38, X38, hb38⟩
        have O38 := O38.mono (Q' := fun _ => False) (fun _ h _ => h.1)
        have zX := hX.size
        refine .p rfl rfl (.as rfl) ?_
        refine .nil (.blk (.code (.keep [(6, _), (1, _), (5, _), (7, _)] ⟨rfl, rfl, rfl, rfl, trivial⟩ (.region ?_))))
        refine .p rfl rfl (.mv rfl) ?_
        refine .p rfl rfl (.add rfl rfl (by omega)) ?_
        refine .p rfl rfl (.as rfl) ?_
        refine .nil ?_
        refine (again (i + 1, w38, v38, b38) ⟨by show i + 1 ≤ _; omega, ?_, (hX.trans X37).then X38 (by rintro k rfl _; omega), ?_⟩ (by show _ - (i + 1) < _ - i; omega)).of ⟨rfl, rfl, rfl, rfl, trivial⟩
        · show Own tByte _ _ w38 v38 _ b38
          rw [bodyTo_succ]
          exact O38
        · show w22.heap.size ≤ b38
          have hb : b38 = bo ∨ b38 = w37.heap.size := hb38
          omega
      · obtain rfl : i = 63 := by omega
        have Bp := N22.blk.ext hX (fun x => x)
        have hbl := bodyTo_length hck hct (Nat.le_refl 63)
        have zX := hX.size
        have Rb : tBytes.rep (fun k => k < wi.heap.size ∧ k ≠ w20.heap.size) wi vo (bodyTo d 63) := tBytes.mono (P' := (fun k => k < wi.heap.size ∧ k ≠ w20.heap.size)) (hO.rep (Q' := fun k => k = bo) rfl (fun _ h _ => h.elim)) (fun k hk hlt => ⟨hlt, by have hk : k = bo := hk; omega⟩)
        have hpB : ¬ (fun k => wi.heap.size ≤ k) w20.heap.size := by show ¬ wi.heap.size ≤ w20.heap.size; omega
        refine .exit rfl (.code (.block (.keep [(5, _), (6, _)] ⟨rfl, rfl, trivial⟩ ?_)))
        refine .loop (S := World × Value × List Bs × UInt32 × Nat × Bs × Value × Nat) (fun s => [(5, .pointer (some ⟨w20.heap.size, 0, none⟩)), (6, s.2.2.2.2.2.2.1)]) (fun s => s.1) (fun s => Blk s.1 w20.heap.size 161 [u32 (headF d), u32 s.2.2.2.1, s.2.1, i64 (s.2.2.2.2.1 : Nat)] ∧ OwnO tStr (fun _ => False) 9 s.1 s.2.1 s.2.2.1 (fun k => wi.heap.size ≤ k) ∧ tBytes.rep (fun k => k < wi.heap.size ∧ k ≠ w20.heap.size) s.1 s.2.2.2.2.2.2.1 s.2.2.2.2.2.1 ∧ Ext (fun k => k = w20.heap.size) wi s.1 ∧ s.2.2.2.2.1 * 128 + s.2.2.2.2.2.1.length ≤ 8064 ∧ s.2.2.1.length ≤ s.2.2.2.2.1 ∧ s.2.2.2.2.2.1.length < (s.2.2.2.2.2.2.2 + 1) * 128 ∧ Tot d s.2.2.1 s.2.2.2.1 s.2.2.2.2.1 s.2.2.2.2.2.1 s.2.2.2.2.2.2.2) (fun s => s.2.2.2.2.2.2.2) (wi, .slice none 0 0, [], 0, 0, bodyTo d 63, vo, fu) ⟨rfl, rfl, trivial⟩ rfl ⟨Bp, OwnO.nil, Rb, .refl _, by show 0 * 128 + (bodyTo d 63).length ≤ 8064; omega, Nat.le_refl _, by show (bodyTo d 63).length < (fu + 1) * 128; rw [fu_eq]; omega, Tot.start d⟩ ?_
        rintro ⟨wj, vs, rs, last, at', rb, vb, f⟩ J ⟨Bp, OR, Rb, Xp, hat, hrs, hfl, htot⟩ again
        simp only at Bp OR Rb Xp hat hrs hfl htot
        have zj := Xp.size
        change G _ [(5, .pointer (some ⟨w20.heap.size, 0, none⟩)), (6, vb)] _ _ wj
        refine .block (.seq (.mix (fun _ => False) [9] (by kernel_rfl) (by kernel_rfl) (by kernel_rfl) ?_))
        obtain ⟨ab, cb, rfl, hcb⟩ := Sl.val Rb
        refine .p rfl rfl rfl (fun wx hx => .mv rfl) ?_
        refine .p rfl rfl rfl (fun wx hx => .nilCheck rfl) ?_
        refine .p rfl rfl rfl (fun wx hx => .fieldAddr rfl rfl rfl rfl) ?_
        refine .p rfl rfl rfl (fun wx hx => .load rfl rfl rfl ((Bp.ext hx (fun x => x)).cell 0)) ?_
        refine .p rfl rfl rfl (fun wx hx => .mv rfl) ?_
        refine .p rfl rfl rfl (fun wx hx => .nilCheck rfl) ?_
        refine .p rfl rfl rfl (fun wx hx => .fieldAddr rfl rfl rfl rfl) ?_
        refine .p rfl rfl rfl (fun wx hx => .load rfl rfl rfl ((Bp.ext hx (fun x => x)).cell 1)) ?_
        refine .p rfl rfl rfl (fun wx hx => .mv rfl) ?_
        refine .call (first := []) (captured := []) rfl rfl rfl rfl rfl (Open_fn (allOf Rb)) (by rintro _ _ ⟨_, hX⟩; exact hX) ?_
        rintro _ w49 ⟨rfl, X49⟩
        have z49 := X49.size
        have Bp := Bp.ext X49 (fun x => x)
        have OR := OwnO.ext0 OR X49
        have Rb := tBytes.ext0 Rb X49
        have hf1 := open_fit (headF d) last rb
        have hf2 := open_text (headF d) last rb
        have hsc : (openF (headF d) last rb).2.2.1 = 0 → scanD d = (rs, last, at') := fun hh => htot.done hh
        have hsm : ¬ (openF (headF d) last rb).2.2.1 = 0 → ∀ f', f = f' + 1 → Tot d (rs ++ [(openF (headF d) last rb).1]) (openF (headF d) last rb).2.1 (at' + (openF (headF d) last rb).2.2.1) (rb.drop ((openF (headF d) last rb).2.2.1 * 128)) f' := fun hh f' e => by subst e; exact htot.step hh
        generalize openF (headF d) last rb = T at hf1 hf2 hsc hsm ⊢
        obtain ⟨rc, salt, n, oe⟩ := T
        simp only at hf1 hf2 hsc hsm
        refine .p rfl rfl rfl (fun wx hx => .mv rfl) ?_
        refine .p rfl rfl rfl (fun wx hx => .cast (.extract rfl rfl) (show _ = str rc from rfl)) ?_
        refine .p rfl rfl rfl (fun wx hx => .cast (.extract rfl rfl) (show _ = u32 salt from rfl)) ?_
        refine .p rfl rfl rfl (fun wx hx => .cast (.extract rfl rfl) (show _ = i64 (n : Int) from rfl)) ?_
        refine .p rfl rfl rfl (fun wx hx => .extract rfl rfl) ?_
        refine .p rfl rfl rfl (fun wx hx => .as rfl) ?_
        refine .p rfl rfl rfl (fun wx hx => .as rfl) ?_
        refine .p rfl rfl rfl (fun wx hx => .as rfl) ?_
        refine .p rfl rfl rfl (fun wx hx => .as rfl) ?_
        refine .nil (.code (.seq (.seq (.keep [(10, _), (9, _), (8, _), (5, _), (6, _)] ⟨rfl, rfl, rfl, rfl, rfl, trivial⟩ (.region ?_)))))
        refine .p rfl rfl (.mv rfl) ?_
        refine .p rfl rfl (.eq rfl rfl) ?_
        refine .nil (.code (.keep [(55, _), (10, _), (9, _), (8, _), (5, _), (6, _)] ⟨rfl, rfl, rfl, rfl, rfl, rfl, trivial⟩ ?_))
        refine .condD rfl (fun c55 => ?_) (fun c55 => ?_)
        · refine .seq (.keep [(5, _)] ⟨rfl, trivial⟩ (.region ?_))
          refine .p rfl rfl (.mv rfl) ?_
          refine .p rfl rfl (.as rfl) ?_
          refine .p rfl rfl (.as rfl) ?_
          refine .nil (.code ?_)
          refine .ret _ rfl ?_
          have e0 := hsc (by omega)
          rw [state_good hth hh, e0]
          have zz := X2.size
          exact ⟨_, _, rfl, Bp, OwnO.rep OR (fun k h _ => by have h : wi.heap.size ≤ k := h; show w.heap.size ≤ k; omega) (fun _ h _ => h.elim), zz, (((X2.trans (N22.ext.trans hX)).then Xp (by rintro k rfl _; exact zz)).trans X49)⟩
        · have hn0 : ¬ n = 0 := by omega
          obtain ⟨f', rfl⟩ : ∃ f', f = f' + 1 := ⟨f - 1, by omega⟩
          have hsm := hsm hn0 f' rfl
          refine .skip (.code (.seq (.keep [(10, _), (9, _), (8, _), (5, _), (6, _)] ⟨rfl, rfl, rfl, rfl, rfl, trivial⟩ ?_)))
          refine .meet (S := Value × World) (fun s => [(5, .pointer (some ⟨w20.heap.size, 0, none⟩)), (6, .slice ab rb.length cb), (10, i64 (n : Nat))]) (fun s => s.2) (fun s => Blk s.2 w20.heap.size 161 [u32 (headF d), u32 salt, s.1, i64 ((at' + n : Nat) : Int)] ∧ OwnO tStr (fun _ => False) 9 s.2 s.1 (rs ++ [rc]) (fun k => wi.heap.size ≤ k) ∧ tBytes.rep (fun k => k < wi.heap.size ∧ k ≠ w20.heap.size) s.2 (.slice ab rb.length cb) rb ∧ Ext (fun k => k = w20.heap.size ∨ wi.heap.size ≤ k) w49 s.2) ?_ ?_
          · rintro ⟨vm, wm⟩ ⟨Bm, Om, Rm, Xm⟩
            simp only at Bm Om Rm Xm
            obtain ⟨a83, c83, hv83, hc83, R83⟩ := Sl.cutE Rm (n * 128) rb.length (by omega) (by omega)
            rw [List.take_length] at R83
            change A _ [(5, .pointer (some ⟨w20.heap.size, 0, none⟩)), (6, .slice ab rb.length cb), (10, i64 (n : Nat))] _ wm
            refine .code (.region ?_)
            refine .p rfl rfl (.mv rfl) ?_
            refine .p rfl rfl (.mv rfl) ?_
            refine .p rfl rfl (.mul rfl rfl (by omega)) ?_
            refine .p rfl rfl (.cast (.cutLo (s := 1) rfl rfl rfl rfl (by omega)) (by show cutV 1 ab cb ((n : Int) * 128).toNat rb.length = .slice a83 (rb.length - n * 128) c83; rw [show ((n : Int) * 128).toNat = n * 128 by omega]; exact hv83)) ?_
            refine .p rfl rfl (.as rfl) ?_
            refine .nil (.blk ?_)
            refine (again (wm, vm, rs ++ [rc], salt, at' + n, rb.drop (n * 128), .slice a83 (rb.length - n * 128) c83, f') ⟨Bm, Om, R83, ?_, ?_, ?_, ?_, ?_⟩ (Nat.lt_succ_self _)).of ⟨rfl, rfl, trivial⟩
            · exact (Xp.trans (X49.mono (fun _ _ h => h.elim))).thenS Xm (fun k h hlt => h.elim .inl .inr)
            · show (at' + n) * 128 + (rb.drop (n * 128)).length ≤ 8064
              rw [List.length_drop]; omega
            · show (rs ++ [rc]).length ≤ at' + n
              simp; omega
            · show (rb.drop (n * 128)).length < (f' + 1) * 128
              rw [List.length_drop]; omega
            · exact hsm
          · intro meet
            refine .tree (fun k => k = w20.heap.size ∨ wi.heap.size ≤ k) [6, 8, 9, 14, 19, 22, 25] (.op 0 (.op 1 (.op 2 (.op 3 (.op 4 (.op 5 (.op 7 (.op 10 (.op 11 (.op 12 (.op 13 (.op 15 (.alt 6 (.op 6 (.alt 8 (.op 8 (.alt 9 (.op 9 (.alt 14 (.op 14 (.op 16 (.op 17 (.op 18 (.alt 19 (.op 19 (.op 20 (.op 21 (.alt 22 (.op 22 (.op 23 (.op 24 (.alt 25 (.op 25 (.nil)) (.stop))))) (.stop))))) (.stop)))))) (.stop))) (.alt 14 (.op 14 (.op 16 (.alt 9 (.op 9 (.op 17 (.op 18 (.alt 19 (.op 19 (.op 20 (.op 21 (.alt 22 (.op 22 (.op 23 (.op 24 (.alt 25 (.op 25 (.nil)) (.stop))))) (.stop))))) (.stop))))) (.stop)))) (.stop)))) (.alt 14 (.op 14 (.op 16 (.alt 8 (.op 8 (.alt 9 (.op 9 (.op 17 (.op 18 (.alt 19 (.op 19 (.op 20 (.op 21 (.alt 22 (.op 22 (.op 23 (.op 24 (.alt 25 (.op 25 (.nil)) (.stop))))) (.stop))))) (.stop))))) (.stop))) (.stop)))) (.stop)))) (.alt 8 (.op 8 (.alt 6 (.op 6 (.alt 9 (.op 9 (.alt 14 (.op 14 (.op 16 (.op 17 (.op 18 (.alt 19 (.op 19 (.op 20 (.op 21 (.alt 22 (.op 22 (.op 23 (.op 24 (.alt 25 (.op 25 (.nil)) (.stop))))) (.stop))))) (.stop)))))) (.stop))) (.alt 14 (.op 14 (.op 16 (.alt 9 (.op 9 (.op 17 (.op 18 (.alt 19 (.op 19 (.op 20 (.op 21 (.alt 22 (.op 22 (.op 23 (.op 24 (.alt 25 (.op 25 (.nil)) (.stop))))) (.stop))))) (.stop))))) (.stop)))) (.stop)))) (.alt 14 (.op 14 (.op 16 (.alt 6 (.op 6 (.alt 9 (.op 9 (.op 17 (.op 18 (.alt 19 (.op 19 (.op 20 (.op 21 (.alt 22 (.op 22 (.op 23 (.op 24 (.alt 25 (.op 25 (.nil)) (.stop))))) (.stop))))) (.stop))))) (.stop))) (.stop)))) (.stop)))) (.alt 14 (.op 14 (.op 16 (.alt 6 (.op 6 (.alt 8 (.op 8 (.alt 9 (.op 9 (.op 17 (.op 18 (.alt 19 (.op 19 (.op 20 (.op 21 (.alt 22 (.op 22 (.op 23 (.op 24 (.alt 25 (.op 25 (.nil)) (.stop))))) (.stop))))) (.stop))))) (.stop))) (.stop))) (.alt 8 (.op 8 (.alt 6 (.op 6 (.alt 9 (.op 9 (.op 17 (.op 18 (.alt 19 (.op 19 (.op 20 (.op 21 (.alt 22 (.op 22 (.op 23 (.op 24 (.alt 25 (.op 25 (.nil)) (.stop))))) (.stop))))) (.stop))))) (.stop))) (.stop))) (.stop))))) (.stop)))))))))))))))) (by kernel_rfl) (by kernel_rfl) (by kernel_rfl) ?_
            refine .p rfl rfl rfl rfl (fun wx hx => .mv rfl) ?_
            refine .p rfl rfl rfl rfl (fun wx hx => .mv rfl) ?_
            refine .p rfl rfl rfl rfl (fun wx hx => .mv rfl) ?_
            refine .p rfl rfl rfl rfl (fun wx hx => .mv rfl) ?_
            refine .p rfl rfl rfl rfl (fun wx hx => .nilCheck rfl) ?_
            refine .p rfl rfl rfl rfl (fun wx hx => .fieldAddr rfl rfl rfl rfl) ?_
            refine .p rfl rfl rfl rfl (fun wx hx => .mv rfl) ?_
            refine .p rfl rfl rfl rfl (fun wx hx => .mv rfl) ?_
            refine .p rfl rfl rfl rfl (fun wx hx => .mv rfl) ?_
            refine .p rfl rfl rfl rfl (fun wx hx => .nilCheck rfl) ?_
            refine .p rfl rfl rfl rfl (fun wx hx => .fieldAddr rfl rfl rfl rfl) ?_
            refine .p rfl rfl rfl rfl (fun wx hx => .mv rfl) ?_
            refine .alt ?_ ?_
            · refine .v rfl rfl rfl rfl (.ofEv (.load rfl rfl rfl (Bp.cell 2))) (by rintro _ _ ⟨rfl, rfl⟩; exact (Ext.refl _)) ?_
              rintro _ wz ⟨rfl, hz⟩
              subst wz
              refine .alt ?_ ?_
              · refine .v rfl rfl rfl rfl (.lits rfl rfl (fun _ => by kernel_rfl)) (by rintro _ _ ⟨_, hN⟩; exact ((Ext.refl _)).trans hN.ext0) ?_
                rintro _ w65 ⟨rfl, N65⟩
                have hX65 : Ext (fun k => k = w20.heap.size ∨ wi.heap.size ≤ k) _ _ := (Ext.refl _).trans (N65.ext0)
                have z65 := N65.size
                have Bp := Bp.ext N65.ext (fun x => x)
                have OR := OwnO.ext0 OR N65.ext
                have Rb := tBytes.ext0 Rb N65.ext
                refine .alt ?_ ?_
                · refine .v rfl rfl rfl rfl (.appendLo (t := tStr) (Q := fun _ => False) (B := (fun k => wi.heap.size ≤ k)) (eb := 16) rfl OR (fun k hk => by show wi.heap.size ≤ k; omega) rfl (.inr (New.holds (t := tStr) (us := [str rc]) (xs := [rc]) N65 (.cons (show tStr.rep _ _ (str rc) rc from ⟨rfl, by simp only [Lim]; omega⟩) .nil) rfl)) rfl rfl rfl rfl rfl rfl rfl (by simp; omega) (by simp [Lim]; omega) (fun _ h _ => h.elim)) (by rintro _ _ ⟨_, hY⟩; exact hX65.trans (hY.mono (fun _ _ h => .inr h))) ?_
                  rintro r66 w66 ⟨G66, Y66⟩
                  have z66 := Y66.size
                  obtain ⟨a66, c66, rfl, hc66⟩ := OwnO.val G66
                  have Bp := Bp.ext Y66 hpB
                  have Rb := tBytes.ext Rb Y66 (fun k hk _ h => by have h : wi.heap.size ≤ k := h; have := hk.1; omega)
                  have hX66 : Ext (fun k => k = w20.heap.size ∨ wi.heap.size ≤ k) _ _ := hX65.trans (Y66.mono (fun _ _ h => .inr h))
                  refine .alt ?_ ?_
                  · refine .v rfl rfl rfl rfl (.ofEv (.load rfl rfl rfl (Bp.cell 3))) (by rintro _ _ ⟨rfl, rfl⟩; exact hX66) ?_
                    rintro _ wz ⟨rfl, hz⟩
                    subst wz
                    refine .p rfl rfl rfl rfl (fun wx hx => .add rfl rfl (by omega)) ?_
                    refine .p rfl rfl rfl rfl (fun wx hx => .nilCheck rfl) ?_
                    refine .p rfl rfl rfl rfl (fun wx hx => .fieldAddr rfl rfl rfl rfl) ?_
                    refine .alt ?_ ?_
                    · refine .s rfl rfl rfl (.store rfl rfl rfl rfl rfl Bp (by simp)) (by intro _ hP; exact hX66.trans (hP.ext.mono (fun _ _ h => .inl h))) ?_
                      intro w19s P19
                      have hXs19 : Ext (fun k => k = w20.heap.size ∨ wi.heap.size ≤ k) _ _ := hX66.trans (P19.ext.mono (fun _ _ h => .inl h))
                      have Bp := P19.blk
                      have G66 := OwnO.ext G66 P19.ext (by rintro k hk _ rfl; exact hpB hk) (fun _ h => h.elim)
                      have Rb := tBytes.ext Rb P19.ext (fun k hk _ he => hk.2 he)
                      refine .p rfl rfl rfl rfl (fun wx hx => .nilCheck rfl) ?_
                      refine .p rfl rfl rfl rfl (fun wx hx => .fieldAddr rfl rfl rfl rfl) ?_
                      refine .alt ?_ ?_
                      · refine .s rfl rfl rfl (.store rfl rfl rfl rfl rfl Bp (by simp)) (by intro _ hP; exact hXs19.trans (hP.ext.mono (fun _ _ h => .inl h))) ?_
                        intro w22s P22
                        have hXs22 : Ext (fun k => k = w20.heap.size ∨ wi.heap.size ≤ k) _ _ := hXs19.trans (P22.ext.mono (fun _ _ h => .inl h))
                        have Bp := P22.blk
                        have G66 := OwnO.ext G66 P22.ext (by rintro k hk _ rfl; exact hpB hk) (fun _ h => h.elim)
                        have Rb := tBytes.ext Rb P22.ext (fun k hk _ he => hk.2 he)
                        refine .p rfl rfl rfl rfl (fun wx hx => .nilCheck rfl) ?_
                        refine .p rfl rfl rfl rfl (fun wx hx => .fieldAddr rfl rfl rfl rfl) ?_
                        refine .alt ?_ ?_
                        · refine .s rfl rfl rfl (.store rfl rfl rfl rfl rfl Bp (by simp)) (by intro _ hP; exact hXs22.trans (hP.ext.mono (fun _ _ h => .inl h))) ?_
                          intro w25s P25
                          have hXs25 : Ext (fun k => k = w20.heap.size ∨ wi.heap.size ≤ k) _ _ := hXs22.trans (P25.ext.mono (fun _ _ h => .inl h))
                          have Bp := P25.blk
                          have G66 := OwnO.ext G66 P25.ext (by rintro k hk _ rfl; exact hpB hk) (fun _ h => h.elim)
                          have Rb := tBytes.ext Rb P25.ext (fun k hk _ he => hk.2 he)
                          refine .nil ?_
                          exact (meet (_, _) ⟨Bp, G66, Rb, hXs25⟩).of ⟨rfl, rfl, rfl, trivial⟩
                        exact .stop
                      exact .stop
                    exact .stop
                  exact .stop
                refine .alt ?_ ?_
                · refine .v rfl rfl rfl rfl (.ofEv (.load rfl rfl rfl (Bp.cell 3))) (by rintro _ _ ⟨rfl, rfl⟩; exact hX65) ?_
                  rintro _ wz ⟨rfl, hz⟩
                  subst wz
                  refine .p rfl rfl rfl rfl (fun wx hx => .add rfl rfl (by omega)) ?_
                  refine .alt ?_ ?_
                  · refine .v rfl rfl rfl rfl (.appendLo (t := tStr) (Q := fun _ => False) (B := (fun k => wi.heap.size ≤ k)) (eb := 16) rfl OR (fun k hk => by show wi.heap.size ≤ k; omega) rfl (.inr (New.holds (t := tStr) (us := [str rc]) (xs := [rc]) N65 (.cons (show tStr.rep _ _ (str rc) rc from ⟨rfl, by simp only [Lim]; omega⟩) .nil) rfl)) rfl rfl rfl rfl rfl rfl rfl (by simp; omega) (by simp [Lim]; omega) (fun _ h _ => h.elim)) (by rintro _ _ ⟨_, hY⟩; exact hX65.trans (hY.mono (fun _ _ h => .inr h))) ?_
                    rintro r66 w66 ⟨G66, Y66⟩
                    have z66 := Y66.size
                    obtain ⟨a66, c66, rfl, hc66⟩ := OwnO.val G66
                    have Bp := Bp.ext Y66 hpB
                    have Rb := tBytes.ext Rb Y66 (fun k hk _ h => by have h : wi.heap.size ≤ k := h; have := hk.1; omega)
                    have hX66 : Ext (fun k => k = w20.heap.size ∨ wi.heap.size ≤ k) _ _ := hX65.trans (Y66.mono (fun _ _ h => .inr h))
                    refine .p rfl rfl rfl rfl (fun wx hx => .nilCheck rfl) ?_
                    refine .p rfl rfl rfl rfl (fun wx hx => .fieldAddr rfl rfl rfl rfl) ?_
                    refine .alt ?_ ?_
                    · refine .s rfl rfl rfl (.store rfl rfl rfl rfl rfl Bp (by simp)) (by intro _ hP; exact hX66.trans (hP.ext.mono (fun _ _ h => .inl h))) ?_
                      intro w19s P19
                      have hXs19 : Ext (fun k => k = w20.heap.size ∨ wi.heap.size ≤ k) _ _ := hX66.trans (P19.ext.mono (fun _ _ h => .inl h))
                      have Bp := P19.blk
                      have G66 := OwnO.ext G66 P19.ext (by rintro k hk _ rfl; exact hpB hk) (fun _ h => h.elim)
                      have Rb := tBytes.ext Rb P19.ext (fun k hk _ he => hk.2 he)
                      refine .p rfl rfl rfl rfl (fun wx hx => .nilCheck rfl) ?_
                      refine .p rfl rfl rfl rfl (fun wx hx => .fieldAddr rfl rfl rfl rfl) ?_
                      refine .alt ?_ ?_
                      · refine .s rfl rfl rfl (.store rfl rfl rfl rfl rfl Bp (by simp)) (by intro _ hP; exact hXs19.trans (hP.ext.mono (fun _ _ h => .inl h))) ?_
                        intro w22s P22
                        have hXs22 : Ext (fun k => k = w20.heap.size ∨ wi.heap.size ≤ k) _ _ := hXs19.trans (P22.ext.mono (fun _ _ h => .inl h))
                        have Bp := P22.blk
                        have G66 := OwnO.ext G66 P22.ext (by rintro k hk _ rfl; exact hpB hk) (fun _ h => h.elim)
                        have Rb := tBytes.ext Rb P22.ext (fun k hk _ he => hk.2 he)
                        refine .p rfl rfl rfl rfl (fun wx hx => .nilCheck rfl) ?_
                        refine .p rfl rfl rfl rfl (fun wx hx => .fieldAddr rfl rfl rfl rfl) ?_
                        refine .alt ?_ ?_
                        · refine .s rfl rfl rfl (.store rfl rfl rfl rfl rfl Bp (by simp)) (by intro _ hP; exact hXs22.trans (hP.ext.mono (fun _ _ h => .inl h))) ?_
                          intro w25s P25
                          have hXs25 : Ext (fun k => k = w20.heap.size ∨ wi.heap.size ≤ k) _ _ := hXs22.trans (P25.ext.mono (fun _ _ h => .inl h))
                          have Bp := P25.blk
                          have G66 := OwnO.ext G66 P25.ext (by rintro k hk _ rfl; exact hpB hk) (fun _ h => h.elim)
                          have Rb := tBytes.ext Rb P25.ext (fun k hk _ he => hk.2 he)
                          refine .nil ?_
                          exact (meet (_, _) ⟨Bp, G66, Rb, hXs25⟩).of ⟨rfl, rfl, rfl, trivial⟩
                        exact .stop
                      exact .stop
                    exact .stop
                  exact .stop
                exact .stop
              refine .alt ?_ ?_
              · refine .v rfl rfl rfl rfl (.ofEv (.load rfl rfl rfl (Bp.cell 3))) (by rintro _ _ ⟨rfl, rfl⟩; exact (Ext.refl _)) ?_
                rintro _ wz ⟨rfl, hz⟩
                subst wz
                refine .p rfl rfl rfl rfl (fun wx hx => .add rfl rfl (by omega)) ?_
                refine .alt ?_ ?_
                · refine .v rfl rfl rfl rfl (.lits rfl rfl (fun _ => by kernel_rfl)) (by rintro _ _ ⟨_, hN⟩; exact ((Ext.refl _)).trans hN.ext0) ?_
                  rintro _ w65 ⟨rfl, N65⟩
                  have hX65 : Ext (fun k => k = w20.heap.size ∨ wi.heap.size ≤ k) _ _ := (Ext.refl _).trans (N65.ext0)
                  have z65 := N65.size
                  have Bp := Bp.ext N65.ext (fun x => x)
                  have OR := OwnO.ext0 OR N65.ext
                  have Rb := tBytes.ext0 Rb N65.ext
                  refine .alt ?_ ?_
                  · refine .v rfl rfl rfl rfl (.appendLo (t := tStr) (Q := fun _ => False) (B := (fun k => wi.heap.size ≤ k)) (eb := 16) rfl OR (fun k hk => by show wi.heap.size ≤ k; omega) rfl (.inr (New.holds (t := tStr) (us := [str rc]) (xs := [rc]) N65 (.cons (show tStr.rep _ _ (str rc) rc from ⟨rfl, by simp only [Lim]; omega⟩) .nil) rfl)) rfl rfl rfl rfl rfl rfl rfl (by simp; omega) (by simp [Lim]; omega) (fun _ h _ => h.elim)) (by rintro _ _ ⟨_, hY⟩; exact hX65.trans (hY.mono (fun _ _ h => .inr h))) ?_
                    rintro r66 w66 ⟨G66, Y66⟩
                    have z66 := Y66.size
                    obtain ⟨a66, c66, rfl, hc66⟩ := OwnO.val G66
                    have Bp := Bp.ext Y66 hpB
                    have Rb := tBytes.ext Rb Y66 (fun k hk _ h => by have h : wi.heap.size ≤ k := h; have := hk.1; omega)
                    have hX66 : Ext (fun k => k = w20.heap.size ∨ wi.heap.size ≤ k) _ _ := hX65.trans (Y66.mono (fun _ _ h => .inr h))
                    refine .p rfl rfl rfl rfl (fun wx hx => .nilCheck rfl) ?_
                    refine .p rfl rfl rfl rfl (fun wx hx => .fieldAddr rfl rfl rfl rfl) ?_
                    refine .alt ?_ ?_
                    · refine .s rfl rfl rfl (.store rfl rfl rfl rfl rfl Bp (by simp)) (by intro _ hP; exact hX66.trans (hP.ext.mono (fun _ _ h => .inl h))) ?_
                      intro w19s P19
                      have hXs19 : Ext (fun k => k = w20.heap.size ∨ wi.heap.size ≤ k) _ _ := hX66.trans (P19.ext.mono (fun _ _ h => .inl h))
                      have Bp := P19.blk
                      have G66 := OwnO.ext G66 P19.ext (by rintro k hk _ rfl; exact hpB hk) (fun _ h => h.elim)
                      have Rb := tBytes.ext Rb P19.ext (fun k hk _ he => hk.2 he)
                      refine .p rfl rfl rfl rfl (fun wx hx => .nilCheck rfl) ?_
                      refine .p rfl rfl rfl rfl (fun wx hx => .fieldAddr rfl rfl rfl rfl) ?_
                      refine .alt ?_ ?_
                      · refine .s rfl rfl rfl (.store rfl rfl rfl rfl rfl Bp (by simp)) (by intro _ hP; exact hXs19.trans (hP.ext.mono (fun _ _ h => .inl h))) ?_
                        intro w22s P22
                        have hXs22 : Ext (fun k => k = w20.heap.size ∨ wi.heap.size ≤ k) _ _ := hXs19.trans (P22.ext.mono (fun _ _ h => .inl h))
                        have Bp := P22.blk
                        have G66 := OwnO.ext G66 P22.ext (by rintro k hk _ rfl; exact hpB hk) (fun _ h => h.elim)
                        have Rb := tBytes.ext Rb P22.ext (fun k hk _ he => hk.2 he)
                        refine .p rfl rfl rfl rfl (fun wx hx => .nilCheck rfl) ?_
                        refine .p rfl rfl rfl rfl (fun wx hx => .fieldAddr rfl rfl rfl rfl) ?_
                        refine .alt ?_ ?_
                        · refine .s rfl rfl rfl (.store rfl rfl rfl rfl rfl Bp (by simp)) (by intro _ hP; exact hXs22.trans (hP.ext.mono (fun _ _ h => .inl h))) ?_
                          intro w25s P25
                          have hXs25 : Ext (fun k => k = w20.heap.size ∨ wi.heap.size ≤ k) _ _ := hXs22.trans (P25.ext.mono (fun _ _ h => .inl h))
                          have Bp := P25.blk
                          have G66 := OwnO.ext G66 P25.ext (by rintro k hk _ rfl; exact hpB hk) (fun _ h => h.elim)
                          have Rb := tBytes.ext Rb P25.ext (fun k hk _ he => hk.2 he)
                          refine .nil ?_
                          exact (meet (_, _) ⟨Bp, G66, Rb, hXs25⟩).of ⟨rfl, rfl, rfl, trivial⟩
                        exact .stop
                      exact .stop
                    exact .stop
                  exact .stop
                exact .stop
              exact .stop
            refine .alt ?_ ?_
            · refine .v rfl rfl rfl rfl (.lits rfl rfl (fun _ => by kernel_rfl)) (by rintro _ _ ⟨_, hN⟩; exact ((Ext.refl _)).trans hN.ext0) ?_
              rintro _ w65 ⟨rfl, N65⟩
              have hX65 : Ext (fun k => k = w20.heap.size ∨ wi.heap.size ≤ k) _ _ := (Ext.refl _).trans (N65.ext0)
              have z65 := N65.size
              have Bp := Bp.ext N65.ext (fun x => x)
              have OR := OwnO.ext0 OR N65.ext
              have Rb := tBytes.ext0 Rb N65.ext
              refine .alt ?_ ?_
              · refine .v rfl rfl rfl rfl (.ofEv (.load rfl rfl rfl (Bp.cell 2))) (by rintro _ _ ⟨rfl, rfl⟩; exact hX65) ?_
                rintro _ wz ⟨rfl, hz⟩
                subst wz
                refine .alt ?_ ?_
                · refine .v rfl rfl rfl rfl (.appendLo (t := tStr) (Q := fun _ => False) (B := (fun k => wi.heap.size ≤ k)) (eb := 16) rfl OR (fun k hk => by show wi.heap.size ≤ k; omega) rfl (.inr (New.holds (t := tStr) (us := [str rc]) (xs := [rc]) N65 (.cons (show tStr.rep _ _ (str rc) rc from ⟨rfl, by simp only [Lim]; omega⟩) .nil) rfl)) rfl rfl rfl rfl rfl rfl rfl (by simp; omega) (by simp [Lim]; omega) (fun _ h _ => h.elim)) (by rintro _ _ ⟨_, hY⟩; exact hX65.trans (hY.mono (fun _ _ h => .inr h))) ?_
                  rintro r66 w66 ⟨G66, Y66⟩
                  have z66 := Y66.size
                  obtain ⟨a66, c66, rfl, hc66⟩ := OwnO.val G66
                  have Bp := Bp.ext Y66 hpB
                  have Rb := tBytes.ext Rb Y66 (fun k hk _ h => by have h : wi.heap.size ≤ k := h; have := hk.1; omega)
                  have hX66 : Ext (fun k => k = w20.heap.size ∨ wi.heap.size ≤ k) _ _ := hX65.trans (Y66.mono (fun _ _ h => .inr h))
                  refine .alt ?_ ?_
                  · refine .v rfl rfl rfl rfl (.ofEv (.load rfl rfl rfl (Bp.cell 3))) (by rintro _ _ ⟨rfl, rfl⟩; exact hX66) ?_
                    rintro _ wz ⟨rfl, hz⟩
                    subst wz
                    refine .p rfl rfl rfl rfl (fun wx hx => .add rfl rfl (by omega)) ?_
                    refine .p rfl rfl rfl rfl (fun wx hx => .nilCheck rfl) ?_
                    refine .p rfl rfl rfl rfl (fun wx hx => .fieldAddr rfl rfl rfl rfl) ?_
                    refine .alt ?_ ?_
                    · refine .s rfl rfl rfl (.store rfl rfl rfl rfl rfl Bp (by simp)) (by intro _ hP; exact hX66.trans (hP.ext.mono (fun _ _ h => .inl h))) ?_
                      intro w19s P19
                      have hXs19 : Ext (fun k => k = w20.heap.size ∨ wi.heap.size ≤ k) _ _ := hX66.trans (P19.ext.mono (fun _ _ h => .inl h))
                      have Bp := P19.blk
                      have G66 := OwnO.ext G66 P19.ext (by rintro k hk _ rfl; exact hpB hk) (fun _ h => h.elim)
                      have Rb := tBytes.ext Rb P19.ext (fun k hk _ he => hk.2 he)
                      refine .p rfl rfl rfl rfl (fun wx hx => .nilCheck rfl) ?_
                      refine .p rfl rfl rfl rfl (fun wx hx => .fieldAddr rfl rfl rfl rfl) ?_
                      refine .alt ?_ ?_
                      · refine .s rfl rfl rfl (.store rfl rfl rfl rfl rfl Bp (by simp)) (by intro _ hP; exact hXs19.trans (hP.ext.mono (fun _ _ h => .inl h))) ?_
                        intro w22s P22
                        have hXs22 : Ext (fun k => k = w20.heap.size ∨ wi.heap.size ≤ k) _ _ := hXs19.trans (P22.ext.mono (fun _ _ h => .inl h))
                        have Bp := P22.blk
                        have G66 := OwnO.ext G66 P22.ext (by rintro k hk _ rfl; exact hpB hk) (fun _ h => h.elim)
                        have Rb := tBytes.ext Rb P22.ext (fun k hk _ he => hk.2 he)
                        refine .p rfl rfl rfl rfl (fun wx hx => .nilCheck rfl) ?_
                        refine .p rfl rfl rfl rfl (fun wx hx => .fieldAddr rfl rfl rfl rfl) ?_
                        refine .alt ?_ ?_
                        · refine .s rfl rfl rfl (.store rfl rfl rfl rfl rfl Bp (by simp)) (by intro _ hP; exact hXs22.trans (hP.ext.mono (fun _ _ h => .inl h))) ?_
                          intro w25s P25
                          have hXs25 : Ext (fun k => k = w20.heap.size ∨ wi.heap.size ≤ k) _ _ := hXs22.trans (P25.ext.mono (fun _ _ h => .inl h))
                          have Bp := P25.blk
                          have G66 := OwnO.ext G66 P25.ext (by rintro k hk _ rfl; exact hpB hk) (fun _ h => h.elim)
                          have Rb := tBytes.ext Rb P25.ext (fun k hk _ he => hk.2 he)
                          refine .nil ?_
                          exact (meet (_, _) ⟨Bp, G66, Rb, hXs25⟩).of ⟨rfl, rfl, rfl, trivial⟩
                        exact .stop
                      exact .stop
                    exact .stop
                  exact .stop
                refine .alt ?_ ?_
                · refine .v rfl rfl rfl rfl (.ofEv (.load rfl rfl rfl (Bp.cell 3))) (by rintro _ _ ⟨rfl, rfl⟩; exact hX65) ?_
                  rintro _ wz ⟨rfl, hz⟩
                  subst wz
                  refine .p rfl rfl rfl rfl (fun wx hx => .add rfl rfl (by omega)) ?_
                  refine .alt ?_ ?_
                  · refine .v rfl rfl rfl rfl (.appendLo (t := tStr) (Q := fun _ => False) (B := (fun k => wi.heap.size ≤ k)) (eb := 16) rfl OR (fun k hk => by show wi.heap.size ≤ k; omega) rfl (.inr (New.holds (t := tStr) (us := [str rc]) (xs := [rc]) N65 (.cons (show tStr.rep _ _ (str rc) rc from ⟨rfl, by simp only [Lim]; omega⟩) .nil) rfl)) rfl rfl rfl rfl rfl rfl rfl (by simp; omega) (by simp [Lim]; omega) (fun _ h _ => h.elim)) (by rintro _ _ ⟨_, hY⟩; exact hX65.trans (hY.mono (fun _ _ h => .inr h))) ?_
                    rintro r66 w66 ⟨G66, Y66⟩
                    have z66 := Y66.size
                    obtain ⟨a66, c66, rfl, hc66⟩ := OwnO.val G66
                    have Bp := Bp.ext Y66 hpB
                    have Rb := tBytes.ext Rb Y66 (fun k hk _ h => by have h : wi.heap.size ≤ k := h; have := hk.1; omega)
                    have hX66 : Ext (fun k => k = w20.heap.size ∨ wi.heap.size ≤ k) _ _ := hX65.trans (Y66.mono (fun _ _ h => .inr h))
                    refine .p rfl rfl rfl rfl (fun wx hx => .nilCheck rfl) ?_
                    refine .p rfl rfl rfl rfl (fun wx hx => .fieldAddr rfl rfl rfl rfl) ?_
                    refine .alt ?_ ?_
                    · refine .s rfl rfl rfl (.store rfl rfl rfl rfl rfl Bp (by simp)) (by intro _ hP; exact hX66.trans (hP.ext.mono (fun _ _ h => .inl h))) ?_
                      intro w19s P19
                      have hXs19 : Ext (fun k => k = w20.heap.size ∨ wi.heap.size ≤ k) _ _ := hX66.trans (P19.ext.mono (fun _ _ h => .inl h))
                      have Bp := P19.blk
                      have G66 := OwnO.ext G66 P19.ext (by rintro k hk _ rfl; exact hpB hk) (fun _ h => h.elim)
                      have Rb := tBytes.ext Rb P19.ext (fun k hk _ he => hk.2 he)
                      refine .p rfl rfl rfl rfl (fun wx hx => .nilCheck rfl) ?_
                      refine .p rfl rfl rfl rfl (fun wx hx => .fieldAddr rfl rfl rfl rfl) ?_
                      refine .alt ?_ ?_
                      · refine .s rfl rfl rfl (.store rfl rfl rfl rfl rfl Bp (by simp)) (by intro _ hP; exact hXs19.trans (hP.ext.mono (fun _ _ h => .inl h))) ?_
                        intro w22s P22
                        have hXs22 : Ext (fun k => k = w20.heap.size ∨ wi.heap.size ≤ k) _ _ := hXs19.trans (P22.ext.mono (fun _ _ h => .inl h))
                        have Bp := P22.blk
                        have G66 := OwnO.ext G66 P22.ext (by rintro k hk _ rfl; exact hpB hk) (fun _ h => h.elim)
                        have Rb := tBytes.ext Rb P22.ext (fun k hk _ he => hk.2 he)
                        refine .p rfl rfl rfl rfl (fun wx hx => .nilCheck rfl) ?_
                        refine .p rfl rfl rfl rfl (fun wx hx => .fieldAddr rfl rfl rfl rfl) ?_
                        refine .alt ?_ ?_
                        · refine .s rfl rfl rfl (.store rfl rfl rfl rfl rfl Bp (by simp)) (by intro _ hP; exact hXs22.trans (hP.ext.mono (fun _ _ h => .inl h))) ?_
                          intro w25s P25
                          have hXs25 : Ext (fun k => k = w20.heap.size ∨ wi.heap.size ≤ k) _ _ := hXs22.trans (P25.ext.mono (fun _ _ h => .inl h))
                          have Bp := P25.blk
                          have G66 := OwnO.ext G66 P25.ext (by rintro k hk _ rfl; exact hpB hk) (fun _ h => h.elim)
                          have Rb := tBytes.ext Rb P25.ext (fun k hk _ he => hk.2 he)
                          refine .nil ?_
                          exact (meet (_, _) ⟨Bp, G66, Rb, hXs25⟩).of ⟨rfl, rfl, rfl, trivial⟩
                        exact .stop
                      exact .stop
                    exact .stop
                  exact .stop
                exact .stop
              refine .alt ?_ ?_
              · refine .v rfl rfl rfl rfl (.ofEv (.load rfl rfl rfl (Bp.cell 3))) (by rintro _ _ ⟨rfl, rfl⟩; exact hX65) ?_
                rintro _ wz ⟨rfl, hz⟩
                subst wz
                refine .p rfl rfl rfl rfl (fun wx hx => .add rfl rfl (by omega)) ?_
                refine .alt ?_ ?_
                · refine .v rfl rfl rfl rfl (.ofEv (.load rfl rfl rfl (Bp.cell 2))) (by rintro _ _ ⟨rfl, rfl⟩; exact hX65) ?_
                  rintro _ wz ⟨rfl, hz⟩
                  subst wz
                  refine .alt ?_ ?_
                  · refine .v rfl rfl rfl rfl (.appendLo (t := tStr) (Q := fun _ => False) (B := (fun k => wi.heap.size ≤ k)) (eb := 16) rfl OR (fun k hk => by show wi.heap.size ≤ k; omega) rfl (.inr (New.holds (t := tStr) (us := [str rc]) (xs := [rc]) N65 (.cons (show tStr.rep _ _ (str rc) rc from ⟨rfl, by simp only [Lim]; omega⟩) .nil) rfl)) rfl rfl rfl rfl rfl rfl rfl (by simp; omega) (by simp [Lim]; omega) (fun _ h _ => h.elim)) (by rintro _ _ ⟨_, hY⟩; exact hX65.trans (hY.mono (fun _ _ h => .inr h))) ?_
                    rintro r66 w66 ⟨G66, Y66⟩
                    have z66 := Y66.size
                    obtain ⟨a66, c66, rfl, hc66⟩ := OwnO.val G66
                    have Bp := Bp.ext Y66 hpB
                    have Rb := tBytes.ext Rb Y66 (fun k hk _ h => by have h : wi.heap.size ≤ k := h; have := hk.1; omega)
                    have hX66 : Ext (fun k => k = w20.heap.size ∨ wi.heap.size ≤ k) _ _ := hX65.trans (Y66.mono (fun _ _ h => .inr h))
                    refine .p rfl rfl rfl rfl (fun wx hx => .nilCheck rfl) ?_
                    refine .p rfl rfl rfl rfl (fun wx hx => .fieldAddr rfl rfl rfl rfl) ?_
                    refine .alt ?_ ?_
                    · refine .s rfl rfl rfl (.store rfl rfl rfl rfl rfl Bp (by simp)) (by intro _ hP; exact hX66.trans (hP.ext.mono (fun _ _ h => .inl h))) ?_
                      intro w19s P19
                      have hXs19 : Ext (fun k => k = w20.heap.size ∨ wi.heap.size ≤ k) _ _ := hX66.trans (P19.ext.mono (fun _ _ h => .inl h))
                      have Bp := P19.blk
                      have G66 := OwnO.ext G66 P19.ext (by rintro k hk _ rfl; exact hpB hk) (fun _ h => h.elim)
                      have Rb := tBytes.ext Rb P19.ext (fun k hk _ he => hk.2 he)
                      refine .p rfl rfl rfl rfl (fun wx hx => .nilCheck rfl) ?_
                      refine .p rfl rfl rfl rfl (fun wx hx => .fieldAddr rfl rfl rfl rfl) ?_
                      refine .alt ?_ ?_
                      · refine .s rfl rfl rfl (.store rfl rfl rfl rfl rfl Bp (by simp)) (by intro _ hP; exact hXs19.trans (hP.ext.mono (fun _ _ h => .inl h))) ?_
                        intro w22s P22
                        have hXs22 : Ext (fun k => k = w20.heap.size ∨ wi.heap.size ≤ k) _ _ := hXs19.trans (P22.ext.mono (fun _ _ h => .inl h))
                        have Bp := P22.blk
                        have G66 := OwnO.ext G66 P22.ext (by rintro k hk _ rfl; exact hpB hk) (fun _ h => h.elim)
                        have Rb := tBytes.ext Rb P22.ext (fun k hk _ he => hk.2 he)
                        refine .p rfl rfl rfl rfl (fun wx hx => .nilCheck rfl) ?_
                        refine .p rfl rfl rfl rfl (fun wx hx => .fieldAddr rfl rfl rfl rfl) ?_
                        refine .alt ?_ ?_
                        · refine .s rfl rfl rfl (.store rfl rfl rfl rfl rfl Bp (by simp)) (by intro _ hP; exact hXs22.trans (hP.ext.mono (fun _ _ h => .inl h))) ?_
                          intro w25s P25
                          have hXs25 : Ext (fun k => k = w20.heap.size ∨ wi.heap.size ≤ k) _ _ := hXs22.trans (P25.ext.mono (fun _ _ h => .inl h))
                          have Bp := P25.blk
                          have G66 := OwnO.ext G66 P25.ext (by rintro k hk _ rfl; exact hpB hk) (fun _ h => h.elim)
                          have Rb := tBytes.ext Rb P25.ext (fun k hk _ he => hk.2 he)
                          refine .nil ?_
                          exact (meet (_, _) ⟨Bp, G66, Rb, hXs25⟩).of ⟨rfl, rfl, rfl, trivial⟩
                        exact .stop
                      exact .stop
                    exact .stop
                  exact .stop
                exact .stop
              exact .stop
            refine .alt ?_ ?_
            · refine .v rfl rfl rfl rfl (.ofEv (.load rfl rfl rfl (Bp.cell 3))) (by rintro _ _ ⟨rfl, rfl⟩; exact (Ext.refl _)) ?_
              rintro _ wz ⟨rfl, hz⟩
              subst wz
              refine .p rfl rfl rfl rfl (fun wx hx => .add rfl rfl (by omega)) ?_
              refine .alt ?_ ?_
              · refine .v rfl rfl rfl rfl (.ofEv (.load rfl rfl rfl (Bp.cell 2))) (by rintro _ _ ⟨rfl, rfl⟩; exact (Ext.refl _)) ?_
                rintro _ wz ⟨rfl, hz⟩
                subst wz
                refine .alt ?_ ?_
                · refine .v rfl rfl rfl rfl (.lits rfl rfl (fun _ => by kernel_rfl)) (by rintro _ _ ⟨_, hN⟩; exact ((Ext.refl _)).trans hN.ext0) ?_
                  rintro _ w65 ⟨rfl, N65⟩
                  have hX65 : Ext (fun k => k = w20.heap.size ∨ wi.heap.size ≤ k) _ _ := (Ext.refl _).trans (N65.ext0)
                  have z65 := N65.size
                  have Bp := Bp.ext N65.ext (fun x => x)
                  have OR := OwnO.ext0 OR N65.ext
                  have Rb := tBytes.ext0 Rb N65.ext
                  refine .alt ?_ ?_
                  · refine .v rfl rfl rfl rfl (.appendLo (t := tStr) (Q := fun _ => False) (B := (fun k => wi.heap.size ≤ k)) (eb := 16) rfl OR (fun k hk => by show wi.heap.size ≤ k; omega) rfl (.inr (New.holds (t := tStr) (us := [str rc]) (xs := [rc]) N65 (.cons (show tStr.rep _ _ (str rc) rc from ⟨rfl, by simp only [Lim]; omega⟩) .nil) rfl)) rfl rfl rfl rfl rfl rfl rfl (by simp; omega) (by simp [Lim]; omega) (fun _ h _ => h.elim)) (by rintro _ _ ⟨_, hY⟩; exact hX65.trans (hY.mono (fun _ _ h => .inr h))) ?_
                    rintro r66 w66 ⟨G66, Y66⟩
                    have z66 := Y66.size
                    obtain ⟨a66, c66, rfl, hc66⟩ := OwnO.val G66
                    have Bp := Bp.ext Y66 hpB
                    have Rb := tBytes.ext Rb Y66 (fun k hk _ h => by have h : wi.heap.size ≤ k := h; have := hk.1; omega)
                    have hX66 : Ext (fun k => k = w20.heap.size ∨ wi.heap.size ≤ k) _ _ := hX65.trans (Y66.mono (fun _ _ h => .inr h))
                    refine .p rfl rfl rfl rfl (fun wx hx => .nilCheck rfl) ?_
                    refine .p rfl rfl rfl rfl (fun wx hx => .fieldAddr rfl rfl rfl rfl) ?_
                    refine .alt ?_ ?_
                    · refine .s rfl rfl rfl (.store rfl rfl rfl rfl rfl Bp (by simp)) (by intro _ hP; exact hX66.trans (hP.ext.mono (fun _ _ h => .inl h))) ?_
                      intro w19s P19
                      have hXs19 : Ext (fun k => k = w20.heap.size ∨ wi.heap.size ≤ k) _ _ := hX66.trans (P19.ext.mono (fun _ _ h => .inl h))
                      have Bp := P19.blk
                      have G66 := OwnO.ext G66 P19.ext (by rintro k hk _ rfl; exact hpB hk) (fun _ h => h.elim)
                      have Rb := tBytes.ext Rb P19.ext (fun k hk _ he => hk.2 he)
                      refine .p rfl rfl rfl rfl (fun wx hx => .nilCheck rfl) ?_
                      refine .p rfl rfl rfl rfl (fun wx hx => .fieldAddr rfl rfl rfl rfl) ?_
                      refine .alt ?_ ?_
                      · refine .s rfl rfl rfl (.store rfl rfl rfl rfl rfl Bp (by simp)) (by intro _ hP; exact hXs19.trans (hP.ext.mono (fun _ _ h => .inl h))) ?_
                        intro w22s P22
                        have hXs22 : Ext (fun k => k = w20.heap.size ∨ wi.heap.size ≤ k) _ _ := hXs19.trans (P22.ext.mono (fun _ _ h => .inl h))
                        have Bp := P22.blk
                        have G66 := OwnO.ext G66 P22.ext (by rintro k hk _ rfl; exact hpB hk) (fun _ h => h.elim)
                        have Rb := tBytes.ext Rb P22.ext (fun k hk _ he => hk.2 he)
                        refine .p rfl rfl rfl rfl (fun wx hx => .nilCheck rfl) ?_
                        refine .p rfl rfl rfl rfl (fun wx hx => .fieldAddr rfl rfl rfl rfl) ?_
                        refine .alt ?_ ?_
                        · refine .s rfl rfl rfl (.store rfl rfl rfl rfl rfl Bp (by simp)) (by intro _ hP; exact hXs22.trans (hP.ext.mono (fun _ _ h => .inl h))) ?_
                          intro w25s P25
                          have hXs25 : Ext (fun k => k = w20.heap.size ∨ wi.heap.size ≤ k) _ _ := hXs22.trans (P25.ext.mono (fun _ _ h => .inl h))
                          have Bp := P25.blk
                          have G66 := OwnO.ext G66 P25.ext (by rintro k hk _ rfl; exact hpB hk) (fun _ h => h.elim)
                          have Rb := tBytes.ext Rb P25.ext (fun k hk _ he => hk.2 he)
                          refine .nil ?_
                          exact (meet (_, _) ⟨Bp, G66, Rb, hXs25⟩).of ⟨rfl, rfl, rfl, trivial⟩
                        exact .stop
                      exact .stop
                    exact .stop
                  exact .stop
                exact .stop
              refine .alt ?_ ?_
              · refine .v rfl rfl rfl rfl (.lits rfl rfl (fun _ => by kernel_rfl)) (by rintro _ _ ⟨_, hN⟩; exact ((Ext.refl _)).trans hN.ext0) ?_
                rintro _ w65 ⟨rfl, N65⟩
                have hX65 : Ext (fun k => k = w20.heap.size ∨ wi.heap.size ≤ k) _ _ := (Ext.refl _).trans (N65.ext0)
                have z65 := N65.size
                have Bp := Bp.ext N65.ext (fun x => x)
                have OR := OwnO.ext0 OR N65.ext
                have Rb := tBytes.ext0 Rb N65.ext
                refine .alt ?_ ?_
                · refine .v rfl rfl rfl rfl (.ofEv (.load rfl rfl rfl (Bp.cell 2))) (by rintro _ _ ⟨rfl, rfl⟩; exact hX65) ?_
                  rintro _ wz ⟨rfl, hz⟩
                  subst wz
                  refine .alt ?_ ?_
                  · refine .v rfl rfl rfl rfl (.appendLo (t := tStr) (Q := fun _ => False) (B := (fun k => wi.heap.size ≤ k)) (eb := 16) rfl OR (fun k hk => by show wi.heap.size ≤ k; omega) rfl (.inr (New.holds (t := tStr) (us := [str rc]) (xs := [rc]) N65 (.cons (show tStr.rep _ _ (str rc) rc from ⟨rfl, by simp only [Lim]; omega⟩) .nil) rfl)) rfl rfl rfl rfl rfl rfl rfl (by simp; omega) (by simp [Lim]; omega) (fun _ h _ => h.elim)) (by rintro _ _ ⟨_, hY⟩; exact hX65.trans (hY.mono (fun _ _ h => .inr h))) ?_
                    rintro r66 w66 ⟨G66, Y66⟩
                    have z66 := Y66.size
                    obtain ⟨a66, c66, rfl, hc66⟩ := OwnO.val G66
                    have Bp := Bp.ext Y66 hpB
                    have Rb := tBytes.ext Rb Y66 (fun k hk _ h => by have h : wi.heap.size ≤ k := h; have := hk.1; omega)
                    have hX66 : Ext (fun k => k = w20.heap.size ∨ wi.heap.size ≤ k) _ _ := hX65.trans (Y66.mono (fun _ _ h => .inr h))
                    refine .p rfl rfl rfl rfl (fun wx hx => .nilCheck rfl) ?_
                    refine .p rfl rfl rfl rfl (fun wx hx => .fieldAddr rfl rfl rfl rfl) ?_
                    refine .alt ?_ ?_
                    · refine .s rfl rfl rfl (.store rfl rfl rfl rfl rfl Bp (by simp)) (by intro _ hP; exact hX66.trans (hP.ext.mono (fun _ _ h => .inl h))) ?_
                      intro w19s P19
                      have hXs19 : Ext (fun k => k = w20.heap.size ∨ wi.heap.size ≤ k) _ _ := hX66.trans (P19.ext.mono (fun _ _ h => .inl h))
                      have Bp := P19.blk
                      have G66 := OwnO.ext G66 P19.ext (by rintro k hk _ rfl; exact hpB hk) (fun _ h => h.elim)
                      have Rb := tBytes.ext Rb P19.ext (fun k hk _ he => hk.2 he)
                      refine .p rfl rfl rfl rfl (fun wx hx => .nilCheck rfl) ?_
                      refine .p rfl rfl rfl rfl (fun wx hx => .fieldAddr rfl rfl rfl rfl) ?_
                      refine .alt ?_ ?_
                      · refine .s rfl rfl rfl (.store rfl rfl rfl rfl rfl Bp (by simp)) (by intro _ hP; exact hXs19.trans (hP.ext.mono (fun _ _ h => .inl h))) ?_
                        intro w22s P22
                        have hXs22 : Ext (fun k => k = w20.heap.size ∨ wi.heap.size ≤ k) _ _ := hXs19.trans (P22.ext.mono (fun _ _ h => .inl h))
                        have Bp := P22.blk
                        have G66 := OwnO.ext G66 P22.ext (by rintro k hk _ rfl; exact hpB hk) (fun _ h => h.elim)
                        have Rb := tBytes.ext Rb P22.ext (fun k hk _ he => hk.2 he)
                        refine .p rfl rfl rfl rfl (fun wx hx => .nilCheck rfl) ?_
                        refine .p rfl rfl rfl rfl (fun wx hx => .fieldAddr rfl rfl rfl rfl) ?_
                        refine .alt ?_ ?_
                        · refine .s rfl rfl rfl (.store rfl rfl rfl rfl rfl Bp (by simp)) (by intro _ hP; exact hXs22.trans (hP.ext.mono (fun _ _ h => .inl h))) ?_
                          intro w25s P25
                          have hXs25 : Ext (fun k => k = w20.heap.size ∨ wi.heap.size ≤ k) _ _ := hXs22.trans (P25.ext.mono (fun _ _ h => .inl h))
                          have Bp := P25.blk
                          have G66 := OwnO.ext G66 P25.ext (by rintro k hk _ rfl; exact hpB hk) (fun _ h => h.elim)
                          have Rb := tBytes.ext Rb P25.ext (fun k hk _ he => hk.2 he)
                          refine .nil ?_
                          exact (meet (_, _) ⟨Bp, G66, Rb, hXs25⟩).of ⟨rfl, rfl, rfl, trivial⟩
                        exact .stop
                      exact .stop
                    exact .stop
                  exact .stop
                exact .stop
              exact .stop
            exact .stop
end Go.Proofs.YthliepcjfnjnoaaGreatDoor
namespace Go.Proofs.YthliepcjfnjnoaaGreatDoor
open Go disk log
namespace disk
def tActO : Ty disk.Act := (tBool.pair tPutO).map (fun a => (a.flush, a.put))
section
variable {P : Nat → Prop} {w : World} {v : Value}
theorem tActO.mk {a : disk.Act} {u : Value} (h : tOwnB.rep P w u a.put.data) (h1 : -9223372036854775808 ≤ a.put.sector ∧ a.put.sector ≤ 9223372036854775807) : tActO.rep P w (.agg #[.bool a.flush, i64 a.put.sector, u]) a := by
  refine ⟨.bool a.flush, .agg #[i64 a.put.sector, u], ?_, rfl, tPutO.mk h h1⟩
  rfl
theorem tActO.val {a : disk.Act} (h : tActO.rep P w v a) : ∃ u, v = .agg #[.bool a.flush, i64 a.put.sector, u] ∧ tOwnB.rep P w u a.put.data ∧ -9223372036854775808 ≤ a.put.sector ∧ a.put.sector ≤ 9223372036854775807 := by
  obtain ⟨u, u', rfl, rfl, h2⟩ := h
  obtain ⟨x, rfl, h3, h4⟩ := tPutO.val h2
  exact ⟨x, rfl, h3, h4⟩
theorem tActO.weak {a : disk.Act} (h : tActO.rep P w v a) : tAct.rep P w v a := by
  obtain ⟨u, rfl, h1, h2⟩ := tActO.val h
  exact tAct.mk (tOwnB.weak h1) h2
theorem actsOwn {B Q : Nat → Prop} {E : TypeId} {l : List disk.Act} (h : OwnO tActO Q E w v l B) : (Sl tAct).rep All w v l := Sl.imp (OwnO.rep h (R := All) (fun _ _ _ => trivial) (fun _ _ _ => trivial)) (fun u x hx => tActO.weak hx)
end
end disk
theorem Own.ofBytes {Q : Nat → Prop} {w : World} {b : Nat} {l : Bs} (hB : Blk w b 5 (l.map u8)) (hl : l.length < Lim) : Own tByte Q 5 w (.slice (some ⟨b, 0, none⟩) l.length l.length) l b :=
  ⟨hl, .inr ⟨l.length, l.map u8, [], rfl, Nat.le_refl _, each_u8 l, by rw [flat_u8, List.append_nil]; exact hB, by rw [flat_u8]; simp [tByte]⟩⟩
section
variable {P : Program} {e : Env} {w : World} {x y z : Operand} {k : IntKind} {a b c : Int}
theorem Ev.max3 {Ts : Array TypeId} (hx : look e x = some (.int k a)) (hy : look e y = some (.int k b)) (hz : look e z = some (.int k c)) : Ev P e (.call { callee := .builtin .max, args := #[x, y, z], argTypes := Ts }) w (.int k (max (max a b) c)) :=
  fun w' _ ρ hρ o ho => by
    have h : (if a < b then b else a) = max a b := by split <;> omega
    have h2 : (if max a b < c then c else max a b) = max (max a b) c := by split <;> omega
    simp [execOp, ho, resolve, invoke, builtin, hρ _ _ hx, hρ _ _ hy, hρ _ _ hz, Builtin.max_, Builtin.max2, h, h2]
end
theorem u32_max_nat (a b : UInt32) : (max a b).toNat = max a.toNat b.toNat := by
  show (if a ≤ b then b else a).toNat = _
  split
  · rename_i h; have h : a.toNat ≤ b.toNat := h; omega
  · rename_i h; have h : ¬ a.toNat ≤ b.toNat := h; omega
theorem u32_max (a b : UInt32) : Value.int .u32 (max (a.toNat : Int) (b.toNat : Int)) = u32 (max a b) := by
  show _ = Value.int .u32 ((max a b).toNat : Int)
  rw [u32_max_nat]
  congr 1
  omega
theorem u32_max3 (a b c : UInt32) : Value.int .u32 (max (max (a.toNat : Int) (b.toNat : Int)) (c.toNat : Int)) = u32 (max (max a b) c) := by
  show _ = Value.int .u32 ((max (max a b) c).toNat : Int)
  rw [u32_max_nat, u32_max_nat]
  congr 1
  omega
theorem u32_last (x : UInt32) : ((x.toNat : Int) = 4294967295) ↔ x = 4294967295 := by
  constructor
  · intro h
    apply UInt32.toNat_inj.1
    have h : x.toNat = 4294967295 := by omega
    rw [h]; rfl
  · rintro rfl; rfl
theorem u32_eq (a b : UInt32) : ((a.toNat : Int) = (b.toNat : Int)) ↔ a = b := by
  rw [← UInt32.toNat_inj]; omega
namespace log
theorem state_facts {d : Disk} (h : (stateF d).2 = 0) : ¬ (stateF d).1.epoch = 0 ∧ checkF d = 0 ∧ 80 ≤ d.count := by
  obtain ⟨h1, h2, h3, h4, h5, h6⟩ := state_ok h
  exact ⟨by rw [h5]; exact h4, h2, h3⟩
theorem clear_patch (e : UInt32) : log.patch (List.replicate 128 0) 0 (put4 e) = clearB e := by
  unfold log.patch clearB
  rw [put4_length, List.take_zero, List.nil_append, List.drop_replicate]
theorem clearB_length (e : UInt32) : (clearB e).length = 128 := by simp [clearB, put4_length]
theorem u32_succ_ne {x : UInt32} (h : ¬ x = 4294967295) : ¬ x + 1 = 0 ∧ (x + 1).toNat = x.toNat + 1 := by
  have h1 : x.toNat ≠ 4294967295 := fun e => h (UInt32.toNat_inj.1 (by rw [e]; rfl))
  have h2 := x.toNat_lt
  have h3 : (x + 1).toNat = x.toNat + 1 := by
    rw [UInt32.toNat_add]
    show (x.toNat + 1) % 4294967296 = _
    omega
  exact ⟨fun e => by rw [e] at h3; have h3 : 0 = x.toNat + 1 := h3; omega, h3⟩
theorem frame_good {epoch salt prev : UInt32} {r : Bs} (h1 : ¬ epoch = 0) (h2 : ¬ salt = 0) (h3 : r.length ≤ 4096) : frameF epoch salt prev r = (frameL epoch salt prev r, 0) := by
  unfold frameF
  rw [if_neg (fun h => h.elim h1 h2), if_neg (by omega)]
theorem frameL_length (epoch salt prev : UInt32) (r : Bs) : (frameL epoch salt prev r).length = needs r.length * 128 := frameTo_length _ _ _ _ _ _
theorem saltTo_succ (d : Disk) (epoch : UInt32) (a k : Nat) : saltTo d epoch a (k + 1) = saltStep d epoch (a + k) (saltTo d epoch a k) := rfl
theorem saltStep_T {d : Disk} {epoch m : UInt32} {i : Nat} (h : get4 (readF d ((17 + i : Nat) : Int)) = epoch) : saltStep d epoch i m = max (max m (get4 ((readF d ((17 + i : Nat) : Int)).drop 4))) (get4 ((readF d ((17 + i : Nat) : Int)).drop 8)) := by unfold saltStep; rw [if_pos h]
theorem saltStep_F {d : Disk} {epoch m : UInt32} {i : Nat} (h : ¬ get4 (readF d ((17 + i : Nat) : Int)) = epoch) : saltStep d epoch i m = m := by unfold saltStep; rw [if_neg h]
theorem add_err {d : Disk} {r : Bs} (h : ¬ (stateF d).2 = 0) : addF d r = ([], (stateF d).2) := by unfold addF; rw [if_pos h]
theorem add_long {d : Disk} {r : Bs} (h : (stateF d).2 = 0) (h2 : 4096 < r.length) : addF d r = ([], 3) := by unfold addF; rw [if_neg (fun hh => hh h), if_pos h2]
theorem add_full {d : Disk} {r : Bs} (h : (stateF d).2 = 0) (h2 : ¬ 4096 < r.length) (h3 : 63 < (stateF d).1.at' + needs r.length) : addF d r = ([], 30) := by unfold addF; rw [if_neg (fun hh => hh h), if_neg h2, if_pos h3]
theorem add_salt {d : Disk} {r : Bs} (h : (stateF d).2 = 0) (h2 : ¬ 4096 < r.length) (h3 : ¬ 63 < (stateF d).1.at' + needs r.length) (h4 : saltF d (stateF d).1.epoch (stateF d).1.at' = 4294967295) : addF d r = ([], 30) := by unfold addF; rw [if_neg (fun hh => hh h), if_neg h2, if_neg h3, if_pos h4]
theorem add_good {d : Disk} {r : Bs} (h : (stateF d).2 = 0) (h2 : ¬ 4096 < r.length) (h3 : ¬ 63 < (stateF d).1.at' + needs r.length) (h4 : ¬ saltF d (stateF d).1.epoch (stateF d).1.at' = 4294967295) :
    addF d r = (actsTo (17 + (stateF d).1.at') (frameL (stateF d).1.epoch (saltF d (stateF d).1.epoch (stateF d).1.at' + 1) (stateF d).1.last r) (needs r.length), 0) := by unfold addF; rw [if_neg (fun hh => hh h), if_neg h2, if_neg h3, if_neg h4]
theorem clear_err {d : Disk} (h : ¬ thereF d = 0) : clearF d = ([], thereF d) := by unfold clearF; rw [if_pos h]
theorem clear_full {d : Disk} (h : thereF d = 0) (h2 : epochTo d 63 = 4294967295) : clearF d = ([], 30) := by unfold clearF; rw [if_neg (fun hh => hh h), if_pos h2]
theorem clear_good {d : Disk} (h : thereF d = 0) (h2 : ¬ epochTo d 63 = 4294967295) : clearF d = ([⟨false, ⟨16, clearB (epochTo d 63 + 1)⟩⟩, ⟨true, ⟨0, []⟩⟩], 0) := by unfold clearF; rw [if_neg (fun hh => hh h), if_neg h2]
end log
end Go.Proofs.YthliepcjfnjnoaaGreatDoor
