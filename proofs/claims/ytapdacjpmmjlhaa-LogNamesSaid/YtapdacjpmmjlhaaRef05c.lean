
/-
  Layer 5, the document's own answer: what a log is, what adds, what empties; acts compared.
-/
import Derived.Test.YtapdacjpmmjlhaaRef05b
import Derived.Test.YtapdacjpmmjlhaaRef02c
import Derived.Test.YtapdacjpmmjlhaaActs
set_option linter.unusedVariables false
set_option linter.unusedSimpArgs false
set_option maxRecDepth 20000
namespace Go.Proofs.Ytapdacjpmmjlhaa
open Go disk log
theorem zeros_drop {b : Bs} (hl : b.length = 128) (h : ∀ j (hj : j < b.length), 8 ≤ j → b[j] = 0) : b.drop 8 = List.replicate 120 0 := by
  refine List.ext_getElem (by simp [hl]) (fun j h1 h2 => ?_)
  rw [List.getElem_drop, List.getElem_replicate]
  exact h _ _ (by omega)
theorem drop_zeros {b : Bs} (hl : b.length = 128) (h : b.drop 8 = List.replicate 120 0) {j : Nat} (hj : j < b.length) (h8 : 8 ≤ j) : b[j] = 0 := by
  have e : b[j] = (b.drop 8)[j - 8]'(by simp; omega) := by
    rw [List.getElem_drop]
    congr 1
    omega
  rw [e]
  simp only [h, List.getElem_replicate]
theorem u64_max3 (a b c : UInt32) : Value.int .u64 (max (max (a.toNat : Int) (b.toNat : Int)) (c.toNat : Int)) = .int .u64 ((max (max a b) c).toNat : Int) := by
  rw [u32_max_nat, u32_max_nat]
  congr 1
  omega
theorem u64_max (a b : UInt32) : Value.int .u64 (max (a.toNat : Int) (b.toNat : Int)) = .int .u64 ((max a b).toNat : Int) := by
  rw [u32_max_nat]
  congr 1
  omega
theorem u32_up {s : UInt32} : u32 (UInt32.ofNat ((s.toNat : Int) + 1).toNat) = u32 (s + 1) := by
  congr 1
theorem put8_small {n : Nat} (h : n < 4294967296) : put8 n = (put8 n).take 4 ++ List.replicate 4 0 := by
  have h1 : n / 2 ^ (8 * 4) = 0 := Nat.div_eq_of_lt (by omega)
  have h2 : n / 2 ^ (8 * 5) = 0 := Nat.div_eq_of_lt (by omega)
  have h3 : n / 2 ^ (8 * 6) = 0 := Nat.div_eq_of_lt (by omega)
  have h4 : n / 2 ^ (8 * 7) = 0 := Nat.div_eq_of_lt (by omega)
  show [byteOf n 0, byteOf n 1, byteOf n 2, byteOf n 3, byteOf n 4, byteOf n 5, byteOf n 6, byteOf n 7] = [byteOf n 0, byteOf n 1, byteOf n 2, byteOf n 3, 0, 0, 0, 0]
  have e4 : byteOf n 4 = 0 := by unfold byteOf; rw [h1]; rfl
  have e5 : byteOf n 5 = 0 := by unfold byteOf; rw [h2]; rfl
  have e6 : byteOf n 6 = 0 := by unfold byteOf; rw [h3]; rfl
  have e7 : byteOf n 7 = 0 := by unfold byteOf; rw [h4]; rfl
  rw [e4, e5, e6, e7]
theorem clear_put8 (e : UInt32) : put8 e.toNat ++ List.replicate 120 0 = clearB e := by
  unfold clearB put4
  rw [put8_small (n := e.toNat) e.toNat_lt, List.append_assoc]
  congr 1
theorem fill_set {l : Bs} {i n : Nat} (h : i < l.length) (hn : i < n) : ((l.take i ++ List.replicate (n - i) 0).map u8).set i (u8 l[i]) = (l.take (i + 1) ++ List.replicate (n - (i + 1)) 0).map u8 := by
  rw [set_map]
  congr 1
  rw [List.set_append_right _ _ (by rw [List.length_take]; omega), List.length_take, Nat.min_eq_left (by omega), Nat.sub_self, show n - i = (n - (i + 1)) + 1 by omega, List.replicate_succ, List.set_cons_zero, List.take_succ_eq_append_getElem h, List.append_assoc, List.singleton_append]
theorem RefHead_fn {w : World} {v : Value} {d : Disk} (h : tDisk.rep All w v d) (hck : checkF d = 0) (hct : 80 ≤ d.count) : Fn Try.prog 53 [v] w (fun r w2 => r = u32 (headF d) ∧ Ext (fun _ => False) w w2) := by
  obtain ⟨u, u', rfl, hd, hw, hc1, hc2⟩ := tDisk.val h
  have hl := readF_length hck (n := 16) (by omega) (by omega)
  refine Fn.enter (fun w => Try.call53 _ w) Try.func53 rfl ?_
  refine .seq (.region ?_)
  refine .v rfl rfl (.box rfl) ?_
  rintro _ w1 ⟨rfl, N1⟩
  refine .p rfl rfl (.as rfl) ?_
  refine .nil (.code (.seq (.keep [(1, _)] ⟨rfl, trivial⟩ (.region ?_))))
  refine .p rfl rfl (.loadA (n := 3) rfl rfl rfl rfl rfl N1.blk.cells) ?_
  refine .call (first := []) (captured := []) rfl rfl rfl rfl (refNow_fn (tDisk.ext0 h N1.ext) (asked_in hck (n := 16) (by omega) (by omega))) ?_
  rintro r7 w7 ⟨b7, O7, hb7, X7⟩
  have R7 : tBytes.rep All w7 r7 (readF d 16) := O7.rep trivial (fun _ h _ => h.elim)
  obtain ⟨a7, cap7, rfl, hc7⟩ := Sl.val R7
  rw [hl] at R7 hc7 ⊢
  have R10 := Sl.cut R7 0 8 (by omega) (by omega)
  have hl10 : (((readF d 16).take 8).drop 0).length = 8 := by simp [hl]
  have X1 := N1.ext.trans X7
  refine .p rfl rfl (.as rfl) ?_
  refine .nil (.code (.seq (.keep [(3, _)] ⟨rfl, trivial⟩ (.region ?_))))
  refine .p rfl rfl (.mv rfl) ?_
  refine .p rfl rfl (.cutHi (s := 1) rfl rfl rfl rfl (by omega)) ?_
  refine .call (first := []) (captured := []) rfl rfl rfl rfl (RefGet_fn R10) ?_
  rintro _ w11 ⟨rfl, S11⟩
  have X11 : Ext (fun _ => False) w7 w11 := .same S11
  rw [if_pos hl10, if_pos hl10, List.drop_zero]
  have hn9 := getTo_bd ((readF d 16).take 8) (i := 8) (by omega)
  change getTo ((readF d 16).take 8) 8 < _ at hn9
  rw [show getTo ((readF d 16).take 8) 8 = headN d from rfl] at hn9 ⊢
  generalize hq : readF d 16 = q at hl R7
  have R7 := tBytes.ext0 R7 X11
  refine .p rfl rfl (.mv rfl) ?_
  refine .p rfl rfl (.extract rfl rfl) ?_
  refine .p rfl rfl (.extract rfl rfl) ?_
  refine .p rfl rfl (.as rfl) ?_
  refine .p rfl rfl (.as rfl) ?_
  refine .nil (.code (.seq (.seq (.keep [(4, _), (3, _)] ⟨rfl, rfl, trivial⟩ (.region ?_)))))
  refine .p rfl rfl (.as rfl) ?_
  refine .nil (.code (.block ?_))
  refine .loop (S := Nat) (fun s => [(3, .slice a7 128 cap7), (4, .int .u64 (headN d : Nat)), (6, i64 s)]) (fun s => w11) (fun s => 8 ≤ s ∧ s ≤ 128 ∧ ∀ j (hj : j < q.length), 8 ≤ j → j < s → q[j] = 0) (fun s => 128 - s) 8 ⟨rfl, rfl, rfl, trivial⟩ rfl ⟨by omega, by omega, fun j hj h1 h2 => by omega⟩ ?_
  rintro i J ⟨h8, hi', hz⟩ again
  refine .seq (.seq (.region ?_))
  refine .p rfl rfl (.mv rfl) ?_
  refine .p rfl rfl (.lt rfl rfl) ?_
  refine .nil (.code (.keep [(16, _), (3, _), (4, _), (6, _)] ⟨rfl, rfl, rfl, rfl, trivial⟩ ?_))
  refine .condD rfl (fun c16 => ?_) (fun c16 => ?_)
  · have hi : i < q.length := by omega
    obtain ⟨b, o, rfl, _, hc⟩ := Sl.byteAt R7 (k := i) hi
    refine .skip (.code (.seq (.block (.seq (.keep [(3, _), (4, _), (6, _)] ⟨rfl, rfl, rfl, trivial⟩ (.region ?_))))))
    refine .p rfl rfl (.mv rfl) ?_
    refine .p rfl rfl (.mv rfl) ?_
    refine .p rfl rfl (.indexAddr1 rfl rfl rfl rfl (by omega)) ?_
    refine .p rfl rfl (.load rfl rfl rfl hc) ?_
    refine .p rfl rfl (.ne rfl rfl) ?_
    refine .nil (.code (.keep [(23, _), (3, _), (4, _), (6, _)] ⟨rfl, rfl, rfl, rfl, trivial⟩ ?_))
    refine .condD rfl (fun c23 => ?_) (fun c23 => ?_)
    · refine .seq (.keep [] trivial (.region ?_))
      refine .p rfl rfl (.as rfl) ?_
      refine .nil (.code ?_)
      refine .ret _ rfl ?_
      have e : headF d = 0 := by
        unfold headF
        rw [if_neg (fun hh => c23 (by have := drop_zeros hl (by rw [← hq]; exact hh.2) hi h8; rw [this]; rfl))]
      rw [e]
      exact ⟨rfl, X1.trans X11⟩
    · refine .skip (.blk (.code (.keep [(3, _), (4, _), (6, _)] ⟨rfl, rfl, rfl, trivial⟩ (.region ?_))))
      refine .p rfl rfl (.mv rfl) ?_
      refine .p rfl rfl (.add rfl rfl (by omega)) ?_
      refine .p rfl rfl (.as rfl) ?_
      refine .nil ?_
      have c23 : q[i] = 0 := by apply UInt8.toNat_inj.1; show _ = 0; omega
      refine (again (i + 1) ⟨by omega, by omega, fun j hj h1 h2 => ?_⟩ (by omega)).of ⟨rfl, rfl, rfl, trivial⟩
      rcases Nat.lt_or_ge j i with h3 | h3
      · exact hz j hj h1 h3
      · obtain rfl : j = i := by omega
        exact c23
  · refine .exit rfl (.code (.seq (.seq (.keep [(4, _)] ⟨rfl, trivial⟩ (.region ?_)))))
    refine .p rfl rfl (.mv rfl) ?_
    refine .p rfl rfl (.gt rfl rfl) ?_
    refine .nil (.code (.keep [(25, _), (4, _)] ⟨rfl, rfl, trivial⟩ ?_))
    refine .condD rfl (fun c25 => ?_) (fun c25 => ?_)
    · refine .seq (.keep [] trivial (.region ?_))
      refine .p rfl rfl (.as rfl) ?_
      refine .nil (.code ?_)
      refine .ret _ rfl ?_
      have e : headF d = 0 := by unfold headF; rw [if_neg (by omega)]
      rw [e]
      exact ⟨rfl, X1.trans X11⟩
    · refine .skip (.code (.seq (.keep [(4, _)] ⟨rfl, trivial⟩ (.region ?_))))
      refine .p rfl rfl (.mv rfl) ?_
      refine .p rfl rfl (.convW rfl rfl rfl (by omega)) ?_
      refine .p rfl rfl (.as rfl) ?_
      refine .nil (.code ?_)
      refine .ret _ rfl ?_
      have e : headF d = UInt32.ofNat (headN d) := by unfold headF; rw [if_pos ⟨by omega, by rw [hq]; exact zeros_drop hl (fun j hj h1 => hz j hj h1 (by omega))⟩]
      rw [e]
      exact ⟨rfl, X1.trans X11⟩
theorem RefOf_fn {w : World} {v : Value} {d : Disk} (h : tDisk.rep All w v d) : Fn Try.prog 46 [v] w (fun r w2 => ∃ v', r = .tuple #[.agg #[u32 (stateF d).1.epoch, v', i64 ((stateF d).1.at' : Nat), u32 (stateF d).1.last], i64 (stateF d).2] ∧ tStrs.rep (fun k => w.heap.size ≤ k) w2 v' (stateF d).1.recs ∧ Ext (fun _ => False) w w2) := by
  obtain ⟨u, u', rfl, hd, hw, hc1, hc2⟩ := tDisk.val h
  refine Fn.enter (fun w => Try.call46 _ w) Try.func46 rfl ?_
  refine .seq (.region ?_)
  refine .v rfl rfl (.box rfl) ?_
  rintro _ w1 ⟨rfl, N1⟩
  refine .v rfl rfl (.alloc rfl rfl) ?_
  rintro _ w2 ⟨rfl, N2⟩
  have B1 := N1.blk.ext N2.ext (fun x => x)
  have X2 := N1.ext.trans N2.ext
  have z1 := N1.size
  have z2 := N2.size
  refine .p rfl rfl (.as rfl) ?_
  refine .nil (.code (.seq (.keep [(2, _), (1, _)] ⟨rfl, rfl, trivial⟩ (.region ?_))))
  refine .p rfl rfl (.loadA (n := 3) rfl rfl rfl rfl rfl B1.cells) ?_
  refine .call (first := []) (captured := []) rfl rfl rfl rfl (refCheck_fn (tDisk.ext0 h X2)) ?_
  rintro _ w13 ⟨rfl, X13⟩
  have X3 := X2.trans X13
  have B1 := B1.ext X13 (fun x => x)
  have B2 := N2.blk.ext X13 (fun x => x)
  have z13 := X13.size
  refine .p rfl rfl (.as rfl) ?_
  refine .nil (.code (.seq (.seq (.keep [(4, _), (2, _), (1, _)] ⟨rfl, rfl, rfl, trivial⟩ (.region ?_)))))
  refine .p rfl rfl (.mv rfl) ?_
  refine .p rfl rfl (.ne rfl rfl) ?_
  refine .nil (.code (.keep [(15, _), (4, _), (2, _), (1, _)] ⟨rfl, rfl, rfl, rfl, trivial⟩ ?_))
  refine .condD rfl (fun c15 => ?_) (fun c15 => ?_)
  · refine .seq (.keep [(4, _), (2, _)] ⟨rfl, rfl, trivial⟩ (.region ?_))
    refine .p rfl rfl (.build (cs := [u32 0, .slice none 0 0, i64 0, u32 0]) rfl (fun _ => by kernel_rfl)) ?_
    refine .p rfl rfl (.mv rfl) ?_
    refine .s rfl (.storeAll (n := 4) rfl rfl rfl rfl rfl B2 rfl) ?_
    intro w16 P16
    refine .p rfl rfl (.as rfl) ?_
    refine .nil (.code ?_)
    refine .retR (.cell (n := 4) rfl rfl rfl rfl rfl (P16.blk.cells) (.tmp rfl .nil)) ?_
    have hth : thereF d = checkF d := by unfold thereF; rw [if_pos c15]
    rw [state_there (by rw [hth]; exact c15), hth]
    exact ⟨_, rfl, Sl.nil, X3.then P16.ext (by rintro k rfl _; omega)⟩
  · have hck : checkF d = 0 := Decidable.byContradiction c15
    refine .skip (.code (.seq (.seq (.keep [(2, _), (1, _)] ⟨rfl, rfl, trivial⟩ (.region ?_)))))
    refine .p rfl rfl (.fieldAddr rfl rfl rfl rfl) ?_
    refine .p rfl rfl (.load rfl rfl rfl (B1.cell 0)) ?_
    refine .p rfl rfl (.lt rfl rfl) ?_
    refine .nil (.code (.keep [(20, _), (2, _), (1, _)] ⟨rfl, rfl, rfl, trivial⟩ ?_))
    refine .condD rfl (fun c20 => ?_) (fun c20 => ?_)
    · refine .seq (.keep [(2, _)] ⟨rfl, trivial⟩ (.region ?_))
      refine .p rfl rfl (.build (cs := [u32 0, .slice none 0 0, i64 0, u32 0]) rfl (fun _ => by kernel_rfl)) ?_
      refine .s rfl (.storeAll (n := 4) rfl rfl rfl rfl rfl B2 rfl) ?_
      intro w16 P16
      refine .p rfl rfl (.as rfl) ?_
      refine .nil (.code ?_)
      refine .retR (.cell (n := 4) rfl rfl rfl rfl rfl (P16.blk.cells) (.tmp rfl .nil)) ?_
      have hth : thereF d = 50 := by unfold thereF; rw [if_neg (fun hh => hh hck), if_pos (by omega)]
      rw [state_there (by rw [hth]; decide), hth]
      exact ⟨_, rfl, Sl.nil, X3.then P16.ext (by rintro k rfl _; omega)⟩
    · have hct : 80 ≤ d.count := by omega
      have hth : thereF d = 0 := by unfold thereF; rw [if_neg (fun hh => hh hck), if_neg (by omega)]
      refine .skip (.code (.seq (.keep [(2, _), (1, _)] ⟨rfl, rfl, trivial⟩ (.region ?_))))
      refine .p rfl rfl (.loadA (n := 3) rfl rfl rfl rfl rfl B1.cells) ?_
      refine .call (first := []) (captured := []) rfl rfl rfl rfl (RefHead_fn (tDisk.ext0 h X3) hck hct) ?_
      rintro _ w23 ⟨rfl, X23⟩
      have X4 := X3.trans X23
      have z23 := X23.size
      refine .p rfl rfl (.build (cs := [u32 (headF d), .slice none 0 0, i64 0, u32 0]) rfl (fun _ => by kernel_rfl)) ?_
      refine .v rfl rfl (.alloc rfl rfl) ?_
      rintro _ w5 ⟨rfl, N5⟩
      refine .s rfl (.storeAll (n := 4) rfl rfl rfl rfl rfl N5.blk (Eq.trans (b := 4) rfl rfl)) ?_
      intro w24 P24
      have X24 := N5.ext.then P24.ext (by rintro k rfl _; exact Nat.le_refl _)
      have B5 := P24.blk
      have z5 : w24.heap.size = w23.heap.size + 1 := by rw [P24.size, N5.size]
      have X5 := X4.trans X24
      have B2 := B2.ext (X23.trans X24) (fun x => x)
      refine .nil (.code (.seq (.seq (.keep [(5, _), (2, _), (1, _)] ⟨rfl, rfl, rfl, trivial⟩ (.region ?_)))))
      refine .p rfl rfl (.fieldAddr rfl rfl rfl rfl) ?_
      refine .p rfl rfl (.load rfl rfl rfl (B5.cell 0)) ?_
      refine .p rfl rfl (.eq rfl rfl) ?_
      refine .nil (.code (.keep [(27, _), (5, _), (2, _), (1, _)] ⟨rfl, rfl, rfl, rfl, trivial⟩ ?_))
      refine .condD rfl (fun c27 => ?_) (fun c27 => ?_)
      · refine .seq (.keep [(2, _)] ⟨rfl, trivial⟩ (.region ?_))
        refine .p rfl rfl (.build (cs := [u32 0, .slice none 0 0, i64 0, u32 0]) rfl (fun _ => by kernel_rfl)) ?_
        refine .s rfl (.storeAll (n := 4) rfl rfl rfl rfl rfl B2 rfl) ?_
        intro w16 P16
        refine .p rfl rfl (.as rfl) ?_
        refine .nil (.code ?_)
        refine .retR (.cell (n := 4) rfl rfl rfl rfl rfl (P16.blk.cells) (.tmp rfl .nil)) ?_
        rw [state_head hth ((u32_zero _).1 c27)]
        exact ⟨_, rfl, Sl.nil, X5.then P16.ext (by rintro k rfl _; omega)⟩
      · have hh : ¬ headF d = 0 := fun e => c27 ((u32_zero _).2 e)
        refine .skip (.code (.seq (.keep [(5, _), (2, _), (1, _)] ⟨rfl, rfl, rfl, trivial⟩ (.region ?_))))
        refine .p rfl rfl (.as rfl) ?_
        refine .nil (.code (.seq (.seq (.region ?_))))
        refine .p rfl rfl (.as rfl) ?_
        refine .nil (.code (.block ?_))
        refine .loop (S := Nat × World × Value × Nat) (fun s => [(1, .pointer (some ⟨w.heap.size, 0, none⟩)), (2, .pointer (some ⟨w1.heap.size, 0, none⟩)), (5, .pointer (some ⟨w23.heap.size, 0, none⟩)), (6, s.2.2.1), (7, i64 ((17 + s.1 : Nat) : Int))]) (fun s => s.2.1) (fun s => s.1 ≤ 63 ∧ Own tByte (fun _ => False) 5 s.2.1 s.2.2.1 (bodyTo d s.1) s.2.2.2 ∧ Ext (fun _ => False) w24 s.2.1 ∧ w24.heap.size ≤ s.2.2.2) (fun s => 63 - s.1) (0, w24, .slice none 0 0, w24.heap.size) ⟨rfl, rfl, rfl, rfl, rfl, trivial⟩ rfl ⟨Nat.zero_le _, Own.nil, .refl _, Nat.le_refl _⟩ ?_
        rintro ⟨i, wi, vo, bo⟩ J ⟨hi', hO, hX, hbo⟩ again
        simp only at hi' hO hX hbo
        change G _ [(1, .pointer (some ⟨w.heap.size, 0, none⟩)), (2, .pointer (some ⟨w1.heap.size, 0, none⟩)), (5, .pointer (some ⟨w23.heap.size, 0, none⟩)), (6, vo), (7, i64 ((17 + i : Nat) : Int))] _ _ wi
        refine .seq (.seq (.region ?_))
        refine .p rfl rfl (.mv rfl) ?_
        refine .p rfl rfl (.lt rfl rfl) ?_
        refine .nil (.code (.keep [(30, _), (1, _), (2, _), (5, _), (6, _), (7, _)] ⟨rfl, rfl, rfl, rfl, rfl, rfl, trivial⟩ ?_))
        refine .condD rfl (fun c30 => ?_) (fun c30 => ?_)
        · have hi : i < 63 := by omega
          have hbl := bodyTo_length hck hct (k := i) (by omega)
          have hrl := readF_length hck (n := ((17 + i : Nat) : Int)) (by omega) (by omega)
          refine .skip (.code (.seq (.block (.keep [(1, _), (2, _), (5, _), (6, _), (7, _)] ⟨rfl, rfl, rfl, rfl, rfl, trivial⟩ (.region ?_)))))
          refine .p rfl rfl (.mv rfl) ?_
          refine .p rfl rfl (.loadA (n := 3) rfl rfl rfl rfl rfl (B1.ext (X23.trans (X24.trans hX)) (fun x => x)).cells) ?_
          refine .p rfl rfl (.mv rfl) ?_
          refine .call (first := []) (captured := []) rfl rfl rfl rfl (refNow_fn (tDisk.ext0 h (X5.trans hX)) (asked_in hck (by omega) (by omega))) ?_
          rintro r37 w37 ⟨b37, O37, hb37, X37⟩
          have R37 : tBytes.rep All w37 r37 (readF d ((17 + i : Nat) : Int)) := O37.rep trivial (fun _ h _ => h.elim)
          have hO37 := hO.ext0 X37
          have z37 := X37.size
          refine .v rfl rfl (.append (t := tByte) (eb := 1) rfl hO37 rfl (Sl.holds R37 (fun _ _ h => h)) rfl rfl rfl rfl rfl rfl rfl (by rw [hbl, hrl]; omega) (by rw [hbl, hrl]; simp only [Lim]; omega) (fun _ h _ => h.elim)) ?_
          rintro v38 w38 ⟨b38, O38, X38, hb38⟩
          have O38 := O38.mono (Q' := fun _ => False) (fun _ h _ => h.1)
          have zX := hX.size
          refine .p rfl rfl (.as rfl) ?_
          refine .nil (.blk (.code (.keep [(6, _), (1, _), (2, _), (5, _), (7, _)] ⟨rfl, rfl, rfl, rfl, rfl, trivial⟩ (.region ?_))))
          refine .p rfl rfl (.mv rfl) ?_
          refine .p rfl rfl (.add rfl rfl (by omega)) ?_
          refine .p rfl rfl (.as rfl) ?_
          refine .nil ?_
          refine (again (i + 1, w38, v38, b38) ⟨by show i + 1 ≤ _; omega, ?_, (hX.trans X37).then X38 (by rintro k rfl _; omega), ?_⟩ (by show _ - (i + 1) < _ - i; omega)).of ⟨rfl, rfl, rfl, rfl, rfl, trivial⟩
          · show Own tByte _ _ w38 v38 _ b38
            rw [bodyTo_succ]
            exact O38
          · show w24.heap.size ≤ b38
            have hb : b38 = bo ∨ b38 = w37.heap.size := hb38
            omega
        · obtain rfl : i = 63 := by omega
          have Bp := B5.ext hX (fun x => x)
          have Bq := B2.ext hX (fun x => x)
          have hbl := bodyTo_length hck hct (Nat.le_refl 63)
          have zX := hX.size
          have Rb : tBytes.rep (fun k => k < wi.heap.size ∧ k ≠ w23.heap.size) wi vo (bodyTo d 63) := tBytes.mono (P' := (fun k => k < wi.heap.size ∧ k ≠ w23.heap.size)) (hO.rep (Q' := fun k => k = bo) rfl (fun _ h _ => h.elim)) (fun k hk hlt => ⟨hlt, by have hk : k = bo := hk; omega⟩)
          have hts := Tot.start d
          have fuel0 : 8064 < (fu + 1 + 0) * 128 := by rw [fu_eq]; omega
          generalize bodyTo d 63 = bd at hbl Rb hts hO
          have hpB : ¬ (fun k => wi.heap.size ≤ k) w23.heap.size := by show ¬ wi.heap.size ≤ w23.heap.size; omega
          have hqB : ¬ (fun k => wi.heap.size ≤ k) w1.heap.size := by show ¬ wi.heap.size ≤ w1.heap.size; omega
          have hqp : ¬ w1.heap.size = w23.heap.size := by omega
          refine .exit rfl (.code (.block (.keep [(2, _), (5, _), (6, _)] ⟨rfl, rfl, rfl, trivial⟩ ?_)))
          refine .loop (S := World × Value × List Bs × UInt32 × Nat × Value × Nat) (fun s => [(2, .pointer (some ⟨w1.heap.size, 0, none⟩)), (5, .pointer (some ⟨w23.heap.size, 0, none⟩)), (6, s.2.2.2.2.2.1)]) (fun s => s.1) (fun s => Blk s.1 w23.heap.size 92 [u32 (headF d), s.2.1, i64 (s.2.2.2.2.1 : Nat), u32 s.2.2.2.1] ∧ (∃ cs, Blk s.1 w1.heap.size 92 cs ∧ cs.length = 4) ∧ OwnO tStr (fun _ => False) 9 s.1 s.2.1 s.2.2.1 (fun k => wi.heap.size ≤ k) ∧ tBytes.rep (fun k => k < wi.heap.size ∧ k ≠ w23.heap.size) s.1 s.2.2.2.2.2.1 bd ∧ Ext (fun k => k = w23.heap.size) wi s.1 ∧ s.2.2.2.2.1 ≤ 63 ∧ s.2.2.1.length ≤ s.2.2.2.2.1 ∧ 8064 < (s.2.2.2.2.2.2 + 1 + s.2.2.2.2.1) * 128 ∧ Tot d s.2.2.1 s.2.2.2.1 s.2.2.2.2.1 (bd.drop (s.2.2.2.2.1 * 128)) s.2.2.2.2.2.2) (fun s => s.2.2.2.2.2.2) (wi, .slice none 0 0, [], 0, 0, vo, fu) ⟨rfl, rfl, rfl, trivial⟩ rfl ⟨Bp, ⟨_, Bq, rfl⟩, OwnO.nil, Rb, .refl _, Nat.zero_le _, Nat.le_refl _, fuel0, hts⟩ ?_
          rintro ⟨wj, vs, rs, last, a', vb, f⟩ J ⟨Bp, ⟨cs2, Bq, hcs2⟩, OR, Rb, Xp, hat, hrs, hfl, htot⟩ again
          simp only at Bp Bq OR Rb Xp hat hrs hfl htot
          have zj := Xp.size
          change G _ [(2, .pointer (some ⟨w1.heap.size, 0, none⟩)), (5, .pointer (some ⟨w23.heap.size, 0, none⟩)), (6, vb)] _ _ wj
          refine .block (.seq (.mix (fun _ => False) [9] (by kernel_rfl) (by kernel_rfl) (by kernel_rfl) ?_))
          obtain ⟨ab, cb, rfl, hcb⟩ := Sl.val Rb
          obtain ⟨a47, c47, hv47, hc47, R47⟩ := Sl.cutE Rb (a' * 128) bd.length (by omega) (by omega)
          rw [List.take_length] at R47
          refine .p rfl rfl rfl (fun wx hx => .fieldAddr rfl rfl rfl rfl) ?_
          refine .p rfl rfl rfl (fun wx hx => .load rfl rfl rfl ((Bp.ext hx (fun x => x)).cell 0)) ?_
          refine .p rfl rfl rfl (fun wx hx => .fieldAddr rfl rfl rfl rfl) ?_
          refine .p rfl rfl rfl (fun wx hx => .load rfl rfl rfl ((Bp.ext hx (fun x => x)).cell 3)) ?_
          refine .p rfl rfl rfl (fun wx hx => .mv rfl) ?_
          refine .p rfl rfl rfl (fun wx hx => .fieldAddr rfl rfl rfl rfl) ?_
          refine .p rfl rfl rfl (fun wx hx => .load rfl rfl rfl ((Bp.ext hx (fun x => x)).cell 2)) ?_
          refine .p rfl rfl rfl (fun wx hx => .mul rfl rfl (by omega)) ?_
          refine .p rfl rfl rfl (fun wx hx => .cast (.cutLo (s := 1) rfl rfl rfl rfl (by omega)) (by show cutV 1 ab cb ((a' : Int) * 128).toNat bd.length = .slice a47 (bd.length - a' * 128) c47; rw [show ((a' : Int) * 128).toNat = a' * 128 by omega]; exact hv47)) ?_
          refine .call (first := []) (captured := []) rfl rfl rfl rfl rfl (RefOpen_fn (allOf R47)) (by rintro _ _ ⟨_, hX⟩; exact hX) ?_
          rintro _ w49 ⟨rfl, X49⟩
          have z49 := X49.size
          have Bp := Bp.ext X49 (fun x => x)
          have Bq := Bq.ext X49 (fun x => x)
          have OR := OwnO.ext0 OR X49
          have Rb := tBytes.ext0 Rb X49
          have hf1 := open_fit (headF d) last (bd.drop (a' * 128))
          have hf2 := open_text (headF d) last (bd.drop (a' * 128))
          rw [List.length_drop] at hf1
          have hsc : (openF (headF d) last (bd.drop (a' * 128))).2.2.1 = 0 → scanD d = (rs, last, a') := fun hh => htot.done hh
          have hsm : ¬ (openF (headF d) last (bd.drop (a' * 128))).2.2.1 = 0 → ∀ f', f = f' + 1 → Tot d (rs ++ [(openF (headF d) last (bd.drop (a' * 128))).1]) (openF (headF d) last (bd.drop (a' * 128))).2.1 (a' + (openF (headF d) last (bd.drop (a' * 128))).2.2.1) ((bd.drop (a' * 128)).drop ((openF (headF d) last (bd.drop (a' * 128))).2.2.1 * 128)) f' := fun hh f' e => by subst e; exact htot.step hh
          generalize openF (headF d) last (bd.drop (a' * 128)) = T at hf1 hf2 hsc hsm ⊢
          obtain ⟨rc, salt, n, oe⟩ := T
          simp only at hf1 hf2 hsc hsm
          refine .p rfl rfl rfl (fun wx hx => .mv rfl) ?_
          refine .p rfl rfl rfl (fun wx hx => .cast (.extract rfl rfl) (show _ = str rc from rfl)) ?_
          refine .p rfl rfl rfl (fun wx hx => .cast (.extract rfl rfl) (show _ = u32 salt from rfl)) ?_
          refine .p rfl rfl rfl (fun wx hx => .cast (.extract rfl rfl) (show _ = i64 (n : Int) from rfl)) ?_
          refine .p rfl rfl rfl (fun wx hx => .extract rfl rfl) ?_
          refine .p rfl rfl rfl (fun wx hx => .as rfl) ?_
          refine .p rfl rfl rfl (fun wx hx => .as rfl) ?_
          refine .p rfl rfl rfl (fun wx hx => .as rfl) ?_
          refine .p rfl rfl rfl (fun wx hx => .as rfl) ?_
          refine .nil (.code (.seq (.seq (.keep [(10, _), (9, _), (8, _), (2, _), (5, _), (6, _)] ⟨rfl, rfl, rfl, rfl, rfl, rfl, trivial⟩ (.region ?_)))))
          refine .p rfl rfl (.mv rfl) ?_
          refine .p rfl rfl (.eq rfl rfl) ?_
          refine .nil (.code (.keep [(54, _), (10, _), (9, _), (8, _), (2, _), (5, _), (6, _)] ⟨rfl, rfl, rfl, rfl, rfl, rfl, rfl, trivial⟩ ?_))
          refine .condD rfl (fun c54 => ?_) (fun c54 => ?_)
          · obtain ⟨av, cv, rfl, _⟩ := OwnO.val OR
            refine .seq (.keep [(2, _), (5, _)] ⟨rfl, rfl, trivial⟩ (.region ?_))
            refine .p rfl rfl (.loadA (n := 4) rfl rfl rfl rfl rfl Bp.cells) ?_
            refine .s rfl (.storeAll (n := 4) rfl rfl rfl rfl rfl Bq (Eq.trans (b := 4) rfl hcs2.symm)) ?_
            intro w55 P55
            have z55 := P55.size
            refine .p rfl rfl (.as rfl) ?_
            refine .nil (.code ?_)
            refine .retR (.cell (n := 4) rfl rfl rfl rfl rfl (P55.blk.cells) (.tmp rfl .nil)) ?_
            have e0 := hsc (by omega)
            rw [state_good hth hh, e0]
            exact ⟨_, rfl, OwnO.rep (OwnO.ext OR P55.ext (by rintro k hk _ rfl; exact hqB hk) (fun _ h => h.elim)) (fun k h _ => by have h : wi.heap.size ≤ k := h; show w.heap.size ≤ k; omega) (fun _ h _ => h.elim), ((((X5.trans hX).then Xp (by rintro k rfl _; omega)).trans X49)).then P55.ext (by rintro k rfl _; omega)⟩
          · have hn0 : ¬ n = 0 := by omega
            obtain ⟨f', rfl⟩ : ∃ f', f = f' + 1 := ⟨f - 1, by omega⟩
            have hsm := hsm hn0 f' rfl
            refine .skip (.code (.seq (.keep [(10, _), (9, _), (8, _), (2, _), (5, _), (6, _)] ⟨rfl, rfl, rfl, rfl, rfl, rfl, trivial⟩ (.region ?_))))
            refine .p rfl rfl (.fieldAddr rfl rfl rfl rfl) ?_
            refine .p rfl rfl (.load rfl rfl rfl (Bp.cell 1)) ?_
            refine .p rfl rfl (.mv rfl) ?_
            refine .v rfl rfl (.lits rfl rfl (fun _ => by kernel_rfl)) ?_
            rintro _ w59 ⟨rfl, N59⟩
            have z59 := N59.size
            have OR := OwnO.ext0 OR N59.ext
            have Bp := Bp.ext N59.ext (fun x => x)
            have Bq := Bq.ext N59.ext (fun x => x)
            have Rb := tBytes.ext0 Rb N59.ext
            refine .v rfl rfl (.appendLo (t := tStr) (Q := fun _ => False) (B := (fun k => wi.heap.size ≤ k)) (eb := 16) rfl OR (fun k hk => by show wi.heap.size ≤ k; omega) rfl (.inr (New.holds (t := tStr) (us := [str rc]) (xs := [rc]) N59 (.cons (show tStr.rep _ _ (str rc) rc from ⟨rfl, by simp only [Lim]; omega⟩) .nil) rfl)) rfl rfl rfl rfl rfl rfl rfl (by simp; omega) (by simp [Lim]; omega) (fun _ h _ => h.elim)) ?_
            rintro r66 w66 ⟨G66, Y66⟩
            have z66 := Y66.size
            obtain ⟨a66, c66, rfl, hc66⟩ := OwnO.val G66
            have Bp := Bp.ext Y66 hpB
            have Bq := Bq.ext Y66 hqB
            have Rb := tBytes.ext Rb Y66 (fun k hk _ h => by have h : wi.heap.size ≤ k := h; have := hk.1; omega)
            refine .p rfl rfl (.fieldAddr rfl rfl rfl rfl) ?_
            refine .s rfl (.store rfl rfl rfl rfl rfl Bp (by simp)) ?_
            intro w61 P61
            have Bp := P61.blk
            have Bq := Bq.ext P61.ext hqp
            have G66 := OwnO.ext G66 P61.ext (by rintro k hk _ rfl; exact hpB hk) (fun _ h => h.elim)
            have Rb := tBytes.ext Rb P61.ext (fun k hk _ he => hk.2 he)
            refine .nil (.code (.seq (.keep [(10, _), (9, _), (2, _), (5, _), (6, _)] ⟨rfl, rfl, rfl, rfl, rfl, trivial⟩ (.region ?_))))
            refine .p rfl rfl (.fieldAddr rfl rfl rfl rfl) ?_
            refine .p rfl rfl (.load rfl rfl rfl (Bp.cell 2)) ?_
            refine .p rfl rfl (.mv rfl) ?_
            refine .p rfl rfl (.add rfl rfl (by omega)) ?_
            refine .p rfl rfl (.fieldAddr rfl rfl rfl rfl) ?_
            refine .s rfl (.store rfl rfl rfl rfl rfl Bp (by simp)) ?_
            intro w62 P62
            have Bp := P62.blk
            have Bq := Bq.ext P62.ext hqp
            have G66 := OwnO.ext G66 P62.ext (by rintro k hk _ rfl; exact hpB hk) (fun _ h => h.elim)
            have Rb := tBytes.ext Rb P62.ext (fun k hk _ he => hk.2 he)
            refine .nil (.code (.keep [(9, _), (2, _), (5, _), (6, _)] ⟨rfl, rfl, rfl, rfl, trivial⟩ (.region ?_)))
            refine .p rfl rfl (.mv rfl) ?_
            refine .p rfl rfl (.fieldAddr rfl rfl rfl rfl) ?_
            refine .s rfl (.store rfl rfl rfl rfl rfl Bp (by simp)) ?_
            intro w63 P63
            have Bp := P63.blk
            have Bq := Bq.ext P63.ext hqp
            have G66 := OwnO.ext G66 P63.ext (by rintro k hk _ rfl; exact hpB hk) (fun _ h => h.elim)
            have Rb := tBytes.ext Rb P63.ext (fun k hk _ he => hk.2 he)
            refine .nil (.blk ?_)
            refine (again (w63, .slice a66 _ c66, rs ++ [rc], salt, a' + n, _, f') ⟨Bp, ⟨_, Bq, hcs2⟩, G66, Rb, ?_, ?_, ?_, ?_, ?_⟩ (Nat.lt_succ_self _)).of ⟨rfl, rfl, rfl, trivial⟩
            · exact ((((Xp.trans (X49.mono (fun _ _ h => h.elim))).trans (N59.ext.mono (fun _ _ h => h.elim))).thenS Y66 (fun k h hlt => .inr h)).trans P61.ext).trans (P62.ext.trans P63.ext)
            · show a' + n ≤ 63
              omega
            · show (rs ++ [rc]).length ≤ a' + n
              simp; omega
            · show 8064 < (f' + 1 + (a' + n)) * 128
              omega
            · show Tot d (rs ++ [rc]) salt (a' + n) (bd.drop ((a' + n) * 128)) f'
              rw [List.drop_drop] at hsm
              rw [Nat.add_mul]
              exact hsm
