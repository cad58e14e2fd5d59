/-
  DiskNames: walked.
-/
import Derived.Test.YtfgjpiemnfefmaaLaw02e
set_option linter.unusedVariables false
set_option linter.unusedSimpArgs false
set_option maxRecDepth 20000
namespace Go.Proofs.Ytfgjpiemnfefmaa
open Go disk
namespace disk
theorem check1 : checkF D1 = 0 := by decide +kernel
theorem asked3 : askedF D1 2 = 21 := by decide +kernel
theorem write3 : (doF D1 [⟨false, 0, List.replicate 127 0⟩]).2 = 8 := by decide +kernel
theorem check0 : checkF nodisk = 20 := by decide +kernel
theorem asked4 (k : Nat → Bool) : askedF (settleD D1 k) 1 = 0 := asked_of (check_settle check1 k) (by decide) (show (1 : Int) < D1.count by decide)
theorem sure4 : secOf (settleD D1 (fun _ => true)).data (1 : Int).toNat = List.replicate 128 1 := by decide +kernel
theorem sure5 : secOf (settleD D1 (fun i => [true].getD i false)).data (1 : Int).toNat = List.replicate 128 1 := by decide +kernel
theorem sure6 : secOf (settleD D1 (fun i => ([] : List Bool).getD i false)).data (1 : Int).toNat = List.replicate 128 0 := by decide +kernel
end disk
theorem New0_fn {w : World} {n : Int} (hn : n < 1 ∨ 4096 < n) : Fn Try.prog 21 [i64 n] w (fun r w2 => ∃ v, r = .tuple #[v, i64 20] ∧ tDisk.rep All w2 v nodisk ∧ Ext (fun _ => False) w w2) :=
  (New_fn (n := n)).mono fun r w2 ⟨v, h1, h2, h3⟩ => by
    have e : newF n = (nodisk, 20) := by unfold newF; rw [if_pos hn]
    rw [e] at h1 h2
    exact ⟨v, h1, allOf h2, h3⟩
theorem WriteX_fn {w : World} {v vb : Value} (h : tDisk.rep All w v D1) (hb : tBytes.rep All w vb (List.replicate 127 0)) : Fn Try.prog 27 [v, i64 0, vb] w (fun r w2 => ∃ v' x, r = .tuple #[v', i64 8] ∧ tDisk.rep (fun k => w.heap.size ≤ k ∧ k < w2.heap.size) w2 v' x ∧ Ext (fun _ => False) w w2) :=
  (Write_fn h hb (by decide)).mono fun r w2 ⟨v, h1, h2, h3⟩ => ⟨v, _, by rw [h1, write3], tDisk.mono h2.rep (fun k h1 h => ⟨h1, h⟩), h3⟩
theorem SureV_fn {w : World} {v : Value} {d : Disk} {n : Int} {l : Bs} (h : tDisk.rep All w v d) (hA : askedF d n = 0) (hl : secOf d.data n.toNat = l) : Fn Try.prog 25 [v, i64 n] w (fun r w2 => ∃ s, r = .tuple #[s, i64 0] ∧ tBytes.rep All w2 s l ∧ Ext (fun _ => False) w w2) := by
  subst hl
  exact Sure0_fn h hA
theorem ReadV_fn {w : World} {v : Value} {d : Disk} {n e : Int} (h : tDisk.rep All w v d) (hA : askedF d n = e) : Fn Try.prog 23 [v, i64 n] w (fun r w2 => ∃ s, r = .tuple #[s, i64 e] ∧ Ext (fun _ => False) w w2) :=
  (ReadA_fn (n := n) h).mono fun r w2 ⟨s, h1, _, h3⟩ => ⟨s, by rw [h1, hA], h3⟩
theorem each_false {P : Nat → Prop} {w : World} : Each (tBool.rep P w) [.bool true] [true] := .cons rfl .nil
theorem DiskNames_fn {w : World} : Fn Try.prog 7 [] w (fun r w2 => r = .bool true ∧ Ext (fun _ => False) w w2) := by
  refine Fn.enter (fun w => Try.call7 _ w) Try.func7 rfl ?_
  refine .seq (.region ?_)
  refine .p rfl rfl (.as rfl) ?_
  refine .nil (.code (.seq (.keep [] trivial (.region ?_))))
  refine .call (first := []) (captured := []) rfl rfl rfl rfl (New2_fn) ?_
  rintro _ w10 ⟨v10, rfl, R10, X10⟩
  have z10 := X10.size
  obtain ⟨x10, y10, p10, q10, rfl⟩ := tDisk.shape R10
  refine .p rfl rfl (.mv rfl) ?_
  refine .p rfl rfl (.extract rfl rfl) ?_
  refine .p rfl rfl (.extract rfl rfl) ?_
  refine .v rfl rfl (.alloc rfl rfl) ?_
  rintro _ wn1 ⟨rfl, N1⟩
  refine .s rfl (.storeAll (n := 3) rfl rfl rfl rfl rfl N1.blk rfl) ?_
  intro w1 P1
  have X1 := N1.ext.then P1.ext (by rintro k rfl _; exact Nat.le_refl _)
  have z1 := X1.size
  have B1 := P1.blk
  have l1 := B1.lt
  clear N1 P1
  refine .p rfl rfl (.as rfl) ?_
  refine .nil (.code (.seq (.keep [(1, _)] ⟨rfl, trivial⟩ ?_)))
  refine .meet (S := Nat × (Option Addr × Nat × Option Addr × Nat) × World) (fun s => [(3, .pointer (some ⟨s.1, 0, none⟩))]) (fun s => s.2.2) (fun s => Blk s.2.2 s.1 25 [i64 D1.count, .slice s.2.1.1 D1.data.length s.2.1.2.1, .slice s.2.1.2.2.1 D1.waits.length s.2.1.2.2.2] ∧ tDisk.rep All s.2.2 (.agg #[i64 D1.count, .slice s.2.1.1 D1.data.length s.2.1.2.1, .slice s.2.1.2.2.1 D1.waits.length s.2.1.2.2.2]) D1 ∧ Ext (fun _ => False) w1 s.2.2 ∧ s.1 < s.2.2.heap.size) ?_ ?_
  · rintro ⟨p, ⟨x16, y16, p16, q16⟩, wm⟩ ⟨Bm, Rm, Xm, hpl⟩
    simp only at Bm Rm Xm hpl
    have Rmb := tDisk.mono Rm (P' := fun k => k < wm.heap.size) (fun k _ h => h)
    change A _ [(3, .pointer (some ⟨p, 0, none⟩))] _ wm
    refine .code (.seq (.region ?_))
    refine .p rfl rfl (.loadA (n := 3) rfl rfl rfl rfl rfl (Bm.ext (S := fun _ => False) (by repeat (first | exact Ext.refl _ | assumption | refine Ext.trans (by assumption) ?_)) (fun x => x)).cells) ?_
    refine .call (first := []) (captured := []) rfl rfl rfl rfl (Flush0_fn (tDisk.ext0 Rm (by repeat (first | exact Ext.refl _ | assumption | refine Ext.trans (by assumption) ?_))) check1) ?_
    rintro _ w37 ⟨v37, rfl, R37, X37⟩
    have z37 := X37.size
    obtain ⟨f1, g1, p1, q1, rfl⟩ := tDisk.shape R37
    refine .p rfl rfl (.mv rfl) ?_
    refine .p rfl rfl (.extract rfl rfl) ?_
    refine .p rfl rfl (.extract rfl rfl) ?_
    refine .v rfl rfl (.alloc rfl rfl) ?_
    rintro _ wn5 ⟨rfl, N5⟩
    refine .s rfl (.storeAll (n := 3) rfl rfl rfl rfl rfl N5.blk rfl) ?_
    intro w5 P5
    have X5 := N5.ext.then P5.ext (by rintro k rfl _; exact Nat.le_refl _)
    have z5 := X5.size
    have B5 := P5.blk
    have l5 := B5.lt
    clear N5 P5
    refine .p rfl rfl (.as rfl) ?_
    refine .nil (.code (.seq (.keep [(6, _), (5, _), (3, _)] ⟨rfl, rfl, rfl, trivial⟩ (.region ?_))))
    refine .p rfl rfl (.loadA (n := 3) rfl rfl rfl rfl rfl (Bm.ext (S := fun _ => False) (by repeat (first | exact Ext.refl _ | assumption | refine Ext.trans (by assumption) ?_)) (fun x => x)).cells) ?_
    refine .v rfl rfl (.lits rfl rfl (fun _ => by kernel_rfl)) ?_
    rintro _ w42 ⟨rfl, N42⟩
    have X42 := N42.ext
    have z42 := X42.size
    refine .call (first := []) (captured := []) rfl rfl rfl rfl (Crash0_fn (ks := [true]) (tDisk.ext0 Rm (by repeat (first | exact Ext.refl _ | assumption | refine Ext.trans (by assumption) ?_))) (Sl.mk (us := [.bool true]) each_false (by have := N42.blk.cells; exact this) trivial N42.blk.lt (by simp) (by simp [Lim]) rfl) check1) ?_
    rintro _ w43 ⟨v43, rfl, R43, X43⟩
    have z43 := X43.size
    obtain ⟨f2, g2, p2, q2, rfl⟩ := tDisk.shape R43
    refine .p rfl rfl (.mv rfl) ?_
    refine .p rfl rfl (.extract rfl rfl) ?_
    refine .p rfl rfl (.extract rfl rfl) ?_
    refine .v rfl rfl (.alloc rfl rfl) ?_
    rintro _ wn7 ⟨rfl, N7⟩
    refine .s rfl (.storeAll (n := 3) rfl rfl rfl rfl rfl N7.blk rfl) ?_
    intro w77 P7
    have X7 := N7.ext.then P7.ext (by rintro k rfl _; exact Nat.le_refl _)
    have z7 := X7.size
    have B7 := P7.blk
    have l7 := B7.lt
    clear N7 P7
    refine .p rfl rfl (.as rfl) ?_
    refine .nil (.code (.seq (.keep [(8, _), (7, _), (6, _), (5, _), (3, _)] ⟨rfl, rfl, rfl, rfl, rfl, trivial⟩ (.region ?_))))
    refine .p rfl rfl (.loadA (n := 3) rfl rfl rfl rfl rfl (Bm.ext (S := fun _ => False) (by repeat (first | exact Ext.refl _ | assumption | refine Ext.trans (by assumption) ?_)) (fun x => x)).cells) ?_
    refine .call (first := []) (captured := []) rfl rfl rfl rfl (Crash0_fn (ks := []) (tDisk.ext0 Rm (by repeat (first | exact Ext.refl _ | assumption | refine Ext.trans (by assumption) ?_))) Sl.nil check1) ?_
    rintro _ w48 ⟨v48, rfl, R48, X48⟩
    have z48 := X48.size
    obtain ⟨f3, g3, p3, q3, rfl⟩ := tDisk.shape R48
    refine .p rfl rfl (.mv rfl) ?_
    refine .p rfl rfl (.extract rfl rfl) ?_
    refine .p rfl rfl (.extract rfl rfl) ?_
    refine .v rfl rfl (.alloc rfl rfl) ?_
    rintro _ wn9 ⟨rfl, N9⟩
    refine .s rfl (.storeAll (n := 3) rfl rfl rfl rfl rfl N9.blk rfl) ?_
    intro w9 P9
    have X9 := N9.ext.then P9.ext (by rintro k rfl _; exact Nat.le_refl _)
    have z9 := X9.size
    have B9 := P9.blk
    have l9 := B9.lt
    clear N9 P9
    refine .p rfl rfl (.as rfl) ?_
    refine .nil (.code (.seq (.seq (.keep [(10, _), (9, _), (8, _), (7, _), (6, _), (5, _), (3, _)] ⟨rfl, rfl, rfl, rfl, rfl, rfl, rfl, trivial⟩ (.region ?_)))))
    refine .p rfl rfl (.mv rfl) ?_
    refine .p rfl rfl (.no (.ne rfl rfl) (fun h => h rfl)) ?_
    refine .p rfl rfl (.mv rfl) ?_
    refine .p rfl rfl (.mv rfl) ?_
    refine .p rfl rfl (.no (.ne rfl rfl) (fun h => h rfl)) ?_
    refine .p rfl rfl (.pickF rfl rfl) ?_
    refine .p rfl rfl (.mv rfl) ?_
    refine .p rfl rfl (.mv rfl) ?_
    refine .p rfl rfl (.no (.ne rfl rfl) (fun h => h rfl)) ?_
    refine .p rfl rfl (.pickF rfl rfl) ?_
    refine .nil (.code (.keep [(60, _), (9, _), (7, _), (5, _), (3, _)] ⟨rfl, rfl, rfl, rfl, rfl, trivial⟩ (.condF rfl (.skip (.code (.seq (.keep [(9, _), (7, _), (5, _), (3, _)] ⟨rfl, rfl, rfl, rfl, trivial⟩ (.region ?_))))))))
    refine .p rfl rfl (.loadA (n := 3) rfl rfl rfl rfl rfl (B5.ext (S := fun _ => False) (by repeat (first | exact Ext.refl _ | assumption | refine Ext.trans (by assumption) ?_)) (fun x => x)).cells) ?_
    refine .call (first := []) (captured := []) rfl rfl rfl rfl (SureV_fn (n := 1) (tDisk.ext0 R37 (by repeat (first | exact Ext.refl _ | assumption | refine Ext.trans (by assumption) ?_))) (asked4 _) sure4) ?_
    rintro _ w63 ⟨s63, rfl, R63, X63⟩
    have z63 := X63.size
    refine .p rfl rfl (.mv rfl) ?_
    refine .p rfl rfl (.extract rfl rfl) ?_
    refine .p rfl rfl (.extract rfl rfl) ?_
    refine .p rfl rfl (.as rfl) ?_
    refine .p rfl rfl (.as rfl) ?_
    refine .nil (.code (.seq (.keep [(11, _), (9, _), (7, _), (3, _)] ⟨rfl, rfl, rfl, rfl, trivial⟩ (.region ?_))))
    refine .p rfl rfl (.loadA (n := 3) rfl rfl rfl rfl rfl (B7.ext (S := fun _ => False) (by repeat (first | exact Ext.refl _ | assumption | refine Ext.trans (by assumption) ?_)) (fun x => x)).cells) ?_
    refine .call (first := []) (captured := []) rfl rfl rfl rfl (SureV_fn (n := 1) (tDisk.ext0 R43 (by repeat (first | exact Ext.refl _ | assumption | refine Ext.trans (by assumption) ?_))) (asked4 _) sure5) ?_
    rintro _ w68 ⟨s68, rfl, R68, X68⟩
    have z68 := X68.size
    refine .p rfl rfl (.mv rfl) ?_
    refine .p rfl rfl (.extract rfl rfl) ?_
    refine .p rfl rfl (.extract rfl rfl) ?_
    refine .p rfl rfl (.as rfl) ?_
    refine .p rfl rfl (.as rfl) ?_
    refine .nil (.code (.seq (.keep [(13, _), (11, _), (9, _), (3, _)] ⟨rfl, rfl, rfl, rfl, trivial⟩ (.region ?_))))
    refine .p rfl rfl (.loadA (n := 3) rfl rfl rfl rfl rfl (B9.ext (S := fun _ => False) (by repeat (first | exact Ext.refl _ | assumption | refine Ext.trans (by assumption) ?_)) (fun x => x)).cells) ?_
    refine .call (first := []) (captured := []) rfl rfl rfl rfl (SureV_fn (n := 1) (tDisk.ext0 R48 (by repeat (first | exact Ext.refl _ | assumption | refine Ext.trans (by assumption) ?_))) (asked4 _) sure6) ?_
    rintro _ w73 ⟨s73, rfl, R73, X73⟩
    have z73 := X73.size
    refine .p rfl rfl (.mv rfl) ?_
    refine .p rfl rfl (.extract rfl rfl) ?_
    refine .p rfl rfl (.extract rfl rfl) ?_
    refine .p rfl rfl (.as rfl) ?_
    refine .p rfl rfl (.as rfl) ?_
    refine .nil (.code (.seq (.keep [(15, _), (13, _), (11, _), (3, _)] ⟨rfl, rfl, rfl, rfl, trivial⟩ (.region ?_))))
    refine .call (first := []) (captured := []) rfl rfl rfl rfl (New0_fn (n := 0) (by omega)) ?_
    rintro _ wn77 ⟨v77, rfl, R77, X77⟩
    have z77 := X77.size
    obtain ⟨f4, g4, p4, q4, rfl⟩ := tDisk.shape R77
    refine .p rfl rfl (.mv rfl) ?_
    refine .p rfl rfl (.extract rfl rfl) ?_
    refine .p rfl rfl (.extract rfl rfl) ?_
    refine .v rfl rfl (.alloc rfl rfl) ?_
    rintro _ wn17 ⟨rfl, N17⟩
    refine .s rfl (.storeAll (n := 3) rfl rfl rfl rfl rfl N17.blk rfl) ?_
    intro w17 P17
    have X17 := N17.ext.then P17.ext (by rintro k rfl _; exact Nat.le_refl _)
    have z17 := X17.size
    have B17 := P17.blk
    have l17 := B17.lt
    clear N17 P17
    refine .p rfl rfl (.as rfl) ?_
    refine .nil (.code (.seq (.keep [(18, _), (15, _), (13, _), (11, _), (3, _)] ⟨rfl, rfl, rfl, rfl, rfl, trivial⟩ (.region ?_))))
    refine .call (first := []) (captured := []) rfl rfl rfl rfl (New0_fn (n := 4097) (by omega)) ?_
    rintro _ w81 ⟨v81, rfl, R81, X81⟩
    have z81 := X81.size
    obtain ⟨f5, g5, p5, q5, rfl⟩ := tDisk.shape R81
    refine .p rfl rfl (.mv rfl) ?_
    refine .p rfl rfl (.extract rfl rfl) ?_
    refine .p rfl rfl (.extract rfl rfl) ?_
    refine .v rfl rfl (.alloc rfl rfl) ?_
    rintro _ wn19 ⟨rfl, N19⟩
    refine .s rfl (.storeAll (n := 3) rfl rfl rfl rfl rfl N19.blk rfl) ?_
    intro w19 P19
    have X19 := N19.ext.then P19.ext (by rintro k rfl _; exact Nat.le_refl _)
    have z19 := X19.size
    have B19 := P19.blk
    have l19 := B19.lt
    clear N19 P19
    refine .p rfl rfl (.as rfl) ?_
    refine .nil (.code (.seq (.keep [(20, _), (18, _), (15, _), (13, _), (11, _), (3, _)] ⟨rfl, rfl, rfl, rfl, rfl, rfl, trivial⟩ (.region ?_))))
    refine .p rfl rfl (.loadA (n := 3) rfl rfl rfl rfl rfl (Bm.ext (S := fun _ => False) (by repeat (first | exact Ext.refl _ | assumption | refine Ext.trans (by assumption) ?_)) (fun x => x)).cells) ?_
    refine .call (first := []) (captured := []) rfl rfl rfl rfl (ReadV_fn (n := 2) (tDisk.ext0 Rm (by repeat (first | exact Ext.refl _ | assumption | refine Ext.trans (by assumption) ?_))) asked3) ?_
    rintro _ w86 ⟨s86, rfl, X86⟩
    have z86 := X86.size
    have Bmx := Bm.ext (S := fun _ => False) (w' := w86) (by repeat (first | exact Ext.refl _ | assumption | refine Ext.trans (by assumption) ?_)) (fun x => x)
    have Rmx := tDisk.mono (tDisk.ext0 Rmb (w' := w86) (by repeat (first | exact Ext.refl _ | assumption | refine Ext.trans (by assumption) ?_))) (P' := fun k => k < wm.heap.size) (fun k h _ => h)
    refine .p rfl rfl (.mv rfl) ?_
    refine .p rfl rfl (.extract rfl rfl) ?_
    refine .p rfl rfl (.extract rfl rfl) ?_
    refine .p rfl rfl (.as rfl) ?_
    refine .p rfl rfl (.as rfl) ?_
    refine .nil (.code (.seq (.keep [(22, _), (20, _), (18, _), (15, _), (13, _), (11, _), (3, _)] ⟨rfl, rfl, rfl, rfl, rfl, rfl, rfl, trivial⟩ ?_)))
    refine .meet (S := Unit × World) (fun s => [(11, s63), (13, s68), (15, s73), (18, i64 20), (20, i64 20), (22, i64 21), (24, i64 8)]) (fun s => s.2) (fun s => Ext (fun _ => False) w86 s.2) ?_ ?_
    · rintro ⟨q, w14⟩ X14
      simp only at X14
      change A _ [(11, s63), (13, s68), (15, s73), (18, i64 20), (20, i64 20), (22, i64 21), (24, i64 8)] _ w14
      refine .code (.seq (.mix (fun _ => False) [1, 6, 7, 20, 21, 42] (by kernel_rfl) (by kernel_rfl) (by kernel_rfl) ?_))
      refine .p rfl rfl rfl (fun wx hx => .mv rfl) ?_
      refine .call (first := []) (captured := []) rfl rfl rfl rfl rfl (alive_fn) (by rintro _ _ ⟨_, hx⟩; exact Ext.trans (by repeat (first | exact Ext.refl _ | assumption | refine Ext.trans (by assumption) ?_)) hx) ?_
      rintro _ w96 ⟨rfl, X96⟩
      refine .p rfl rfl rfl (fun wx hx => .pickT rfl rfl) ?_
      refine .p rfl rfl rfl (fun wx hx => .mv rfl) ?_
      refine .p rfl rfl rfl (fun wx hx => .mv rfl) ?_
      refine .p rfl rfl rfl (fun wx hx => .bytesStr rfl (tBytes.ext0 R63 (Ext.trans (by repeat (first | exact Ext.refl _ | assumption | refine Ext.trans (by assumption) ?_)) hx)) rfl rfl rfl) ?_
      refine .call (first := []) (captured := []) rfl rfl rfl rfl rfl (ones_fn (x := 1)) (by rintro _ _ ⟨_, _, _, hx⟩; exact Ext.trans (by repeat (first | exact Ext.refl _ | assumption | refine Ext.trans (by assumption) ?_)) hx) ?_
      rintro r101 w101 ⟨b101, O101, hb101, X101⟩
      refine .v rfl rfl rfl (.ofEv (.bytesStr rfl (own_all O101) rfl rfl rfl)) (by rintro _ _ ⟨rfl, rfl⟩; exact (by repeat (first | exact Ext.refl _ | assumption | refine Ext.trans (by assumption) ?_))) ?_
      rintro _ wz ⟨rfl, hz⟩
      subst wz
      refine .p rfl rfl rfl (fun wx hx => .yes (.eqS rfl rfl) (rfl)) ?_
      refine .p rfl rfl rfl (fun wx hx => .pickT rfl rfl) ?_
      refine .p rfl rfl rfl (fun wx hx => .mv rfl) ?_
      refine .p rfl rfl rfl (fun wx hx => .mv rfl) ?_
      refine .p rfl rfl rfl (fun wx hx => .bytesStr rfl (tBytes.ext0 R68 (Ext.trans (by repeat (first | exact Ext.refl _ | assumption | refine Ext.trans (by assumption) ?_)) hx)) rfl rfl rfl) ?_
      refine .p rfl rfl rfl (fun wx hx => .mv rfl) ?_
      refine .p rfl rfl rfl (fun wx hx => .bytesStr rfl (tBytes.ext0 R63 (Ext.trans (by repeat (first | exact Ext.refl _ | assumption | refine Ext.trans (by assumption) ?_)) hx)) rfl rfl rfl) ?_
      refine .p rfl rfl rfl (fun wx hx => .yes (.eqS rfl rfl) (rfl)) ?_
      refine .p rfl rfl rfl (fun wx hx => .pickT rfl rfl) ?_
      refine .p rfl rfl rfl (fun wx hx => .mv rfl) ?_
      refine .p rfl rfl rfl (fun wx hx => .mv rfl) ?_
      refine .p rfl rfl rfl (fun wx hx => .bytesStr rfl (tBytes.ext0 R73 (Ext.trans (by repeat (first | exact Ext.refl _ | assumption | refine Ext.trans (by assumption) ?_)) hx)) rfl rfl rfl) ?_
      refine .call (first := []) (captured := []) rfl rfl rfl rfl rfl (ones_fn (x := 0)) (by rintro _ _ ⟨_, _, _, hx⟩; exact Ext.trans (by repeat (first | exact Ext.refl _ | assumption | refine Ext.trans (by assumption) ?_)) hx) ?_
      rintro r115 w115 ⟨b115, O115, hb115, X115⟩
      refine .v rfl rfl rfl (.ofEv (.bytesStr rfl (own_all O115) rfl rfl rfl)) (by rintro _ _ ⟨rfl, rfl⟩; exact (by repeat (first | exact Ext.refl _ | assumption | refine Ext.trans (by assumption) ?_))) ?_
      rintro _ wz ⟨rfl, hz⟩
      subst wz
      refine .p rfl rfl rfl (fun wx hx => .yes (.eqS rfl rfl) (rfl)) ?_
      refine .p rfl rfl rfl (fun wx hx => .pickT rfl rfl) ?_
      refine .p rfl rfl rfl (fun wx hx => .mv rfl) ?_
      refine .p rfl rfl rfl (fun wx hx => .mv rfl) ?_
      refine .p rfl rfl rfl (fun wx hx => .yes (.eq rfl rfl) (rfl)) ?_
      refine .p rfl rfl rfl (fun wx hx => .pickT rfl rfl) ?_
      refine .p rfl rfl rfl (fun wx hx => .mv rfl) ?_
      refine .p rfl rfl rfl (fun wx hx => .mv rfl) ?_
      refine .p rfl rfl rfl (fun wx hx => .yes (.eq rfl rfl) (rfl)) ?_
      refine .p rfl rfl rfl (fun wx hx => .pickT rfl rfl) ?_
      refine .p rfl rfl rfl (fun wx hx => .mv rfl) ?_
      refine .p rfl rfl rfl (fun wx hx => .mv rfl) ?_
      refine .p rfl rfl rfl (fun wx hx => .yes (.eq rfl rfl) (rfl)) ?_
      refine .p rfl rfl rfl (fun wx hx => .pickT rfl rfl) ?_
      refine .p rfl rfl rfl (fun wx hx => .mv rfl) ?_
      refine .p rfl rfl rfl (fun wx hx => .mv rfl) ?_
      refine .p rfl rfl rfl (fun wx hx => .yes (.eq rfl rfl) (rfl)) ?_
      refine .p rfl rfl rfl (fun wx hx => .pickT rfl rfl) ?_
      refine .p rfl rfl rfl (fun wx hx => .mv rfl) ?_
      refine .p rfl rfl rfl (fun wx hx => .build (cs := [i64 0, .slice none 0 0, .slice none 0 0]) rfl (fun _ => by kernel_rfl)) ?_
      refine .call (first := []) (captured := []) rfl rfl rfl rfl rfl (Check_fn (d := nodisk) (tDisk.mk (P := All) (d := nodisk) Sl.nil Sl.nil (by decide))) (by rintro _ _ ⟨_, hx⟩; exact Ext.trans (by repeat (first | exact Ext.refl _ | assumption | refine Ext.trans (by assumption) ?_)) hx) ?_
      rintro _ w137 ⟨rfl, X137⟩
      refine .p rfl rfl rfl (fun wx hx => .yes (.eq rfl rfl) (check0)) ?_
      refine .p rfl rfl rfl (fun wx hx => .pickT rfl rfl) ?_
      refine .p rfl rfl rfl (fun wx hx => .as rfl) ?_
      refine .nil (.code ?_)
      refine .ret _ rfl ?_
      exact ⟨rfl, (by repeat (first | exact Ext.refl _ | assumption | refine Ext.trans (by assumption) ?_))⟩
    · intro meet
      refine .tree (fun k => w86.heap.size ≤ k) [1, 2, 6, 7] (.op 0 (.alt 1 (.op 1 (.alt 2 (.op 2 (.op 3 (.op 4 (.op 5 (.alt 6 (.op 6 (.alt 7 (.op 7 (.op 8 (.nil))) (.stop))) (.stop)))))) (.alt 6 (.op 6 (.alt 2 (.op 2 (.op 3 (.op 4 (.op 5 (.alt 7 (.op 7 (.op 8 (.nil))) (.stop)))))) (.stop))) (.stop)))) (.alt 6 (.op 6 (.alt 1 (.op 1 (.alt 2 (.op 2 (.op 3 (.op 4 (.op 5 (.alt 7 (.op 7 (.op 8 (.nil))) (.stop)))))) (.stop))) (.stop))) (.stop)))) (by kernel_rfl) (by kernel_rfl) (by kernel_rfl) ?_
      refine .p rfl rfl rfl rfl (fun wx hx => .loadA (n := 3) rfl rfl rfl rfl rfl (Bmx.ext hx (by show ¬ (w86.heap.size ≤ _); omega)).cells) ?_
      refine .alt ?_ ?_
      · refine .v rfl rfl rfl rfl (.make (eb := 1) rfl rfl rfl rfl rfl rfl rfl rfl (by omega)) (by rintro _ _ ⟨_, hN⟩; exact (Ext.refl _).trans hN.ext0) ?_
        rintro _ w91 ⟨rfl, N91⟩
        have z91 := N91.size
        have hX91 : Ext (fun k => w86.heap.size ≤ k) _ _ := (Ext.refl _).trans (N91.ext0)
        refine .alt ?_ ?_
        · refine .call (first := []) (captured := []) rfl rfl rfl rfl rfl rfl (WriteX_fn (allOf (tDisk.ext Rmx hX91 (by intro k hk _ he; have he : w86.heap.size ≤ k := he; omega))) (by first | exact zeros_own N91 (by simp only [Lim]; omega) rfl trivial | exact tBytes.ext0 (zeros_own N91 (by simp only [Lim]; omega) rfl trivial) N23.ext)) (by rintro _ _ ⟨_, _, _, _, hx⟩; exact hX91.trans (hx.mono (fun _ _ h => h.elim))) ?_
          rintro _ w92 ⟨v92, x92, rfl, R92, X92⟩
          have z92 := X92.size
          obtain ⟨f6, g6, p6, q6, rfl⟩ := tDisk.shape R92
          have hX92 : Ext (fun k => w86.heap.size ≤ k) _ _ := hX91.trans (X92.mono (fun _ _ h => h.elim))
          refine .p rfl rfl rfl rfl (fun wx hx => .mv rfl) ?_
          refine .p rfl rfl rfl rfl (fun wx hx => .extract rfl rfl) ?_
          refine .p rfl rfl rfl rfl (fun wx hx => .extract rfl rfl) ?_
          refine .alt ?_ ?_
          · refine .v rfl rfl rfl rfl (.alloc rfl rfl) (by rintro _ _ ⟨_, hN⟩; exact hX92.trans hN.ext0) ?_
            rintro _ w23 ⟨rfl, N23⟩
            have z23 := N23.size
            have hX23 : Ext (fun k => w86.heap.size ≤ k) _ _ := hX92.trans (N23.ext0)
            refine .alt ?_ ?_
            · refine .s rfl rfl rfl (.storeAll (n := 3) (E := 25) (cs := [i64 0, .slice none 0 0, .slice none 0 0]) rfl rfl rfl rfl rfl (by first | exact N23.blk | exact N23.blk.ext X92 (fun x => x) | exact (N23.blk.ext N91.ext (fun x => x)).ext X92 (fun x => x)) rfl) (by intro wz hP; exact hX23.trans (hP.ext.mono (by rintro k _ rfl; show w86.heap.size ≤ _; omega))) ?_
              intro w147 P23
              have hXs7 : Ext (fun k => w86.heap.size ≤ k) _ _ := hX23.trans (P23.ext.mono (by rintro k _ rfl; show w86.heap.size ≤ _; omega))
              refine .p rfl rfl rfl rfl (fun wx hx => .as rfl) ?_
              refine .nil ?_
              exact (meet (⟨⟩, w147) ((Ext.refl w86).then hXs7 (fun k hk _ => hk))).of ⟨rfl, rfl, rfl, rfl, rfl, rfl, rfl, trivial⟩
            exact .stop
          exact .stop
        refine .alt ?_ ?_
        · refine .v rfl rfl rfl rfl (.alloc rfl rfl) (by rintro _ _ ⟨_, hN⟩; exact hX91.trans hN.ext0) ?_
          rintro _ w23 ⟨rfl, N23⟩
          have z23 := N23.size
          have hX23 : Ext (fun k => w86.heap.size ≤ k) _ _ := hX91.trans (N23.ext0)
          refine .alt ?_ ?_
          · refine .call (first := []) (captured := []) rfl rfl rfl rfl rfl rfl (WriteX_fn (allOf (tDisk.ext Rmx hX23 (by intro k hk _ he; have he : w86.heap.size ≤ k := he; omega))) (by first | exact zeros_own N91 (by simp only [Lim]; omega) rfl trivial | exact tBytes.ext0 (zeros_own N91 (by simp only [Lim]; omega) rfl trivial) N23.ext)) (by rintro _ _ ⟨_, _, _, _, hx⟩; exact hX23.trans (hx.mono (fun _ _ h => h.elim))) ?_
            rintro _ w92 ⟨v92, x92, rfl, R92, X92⟩
            have z92 := X92.size
            obtain ⟨f6, g6, p6, q6, rfl⟩ := tDisk.shape R92
            have hX92 : Ext (fun k => w86.heap.size ≤ k) _ _ := hX23.trans (X92.mono (fun _ _ h => h.elim))
            refine .p rfl rfl rfl rfl (fun wx hx => .mv rfl) ?_
            refine .p rfl rfl rfl rfl (fun wx hx => .extract rfl rfl) ?_
            refine .p rfl rfl rfl rfl (fun wx hx => .extract rfl rfl) ?_
            refine .alt ?_ ?_
            · refine .s rfl rfl rfl (.storeAll (n := 3) (E := 25) (cs := [i64 0, .slice none 0 0, .slice none 0 0]) rfl rfl rfl rfl rfl (by first | exact N23.blk | exact N23.blk.ext X92 (fun x => x) | exact (N23.blk.ext N91.ext (fun x => x)).ext X92 (fun x => x)) rfl) (by intro wz hP; exact hX92.trans (hP.ext.mono (by rintro k _ rfl; show w86.heap.size ≤ _; omega))) ?_
              intro w147 P23
              have hXs7 : Ext (fun k => w86.heap.size ≤ k) _ _ := hX92.trans (P23.ext.mono (by rintro k _ rfl; show w86.heap.size ≤ _; omega))
              refine .p rfl rfl rfl rfl (fun wx hx => .as rfl) ?_
              refine .nil ?_
              exact (meet (⟨⟩, w147) ((Ext.refl w86).then hXs7 (fun k hk _ => hk))).of ⟨rfl, rfl, rfl, rfl, rfl, rfl, rfl, trivial⟩
            exact .stop
          exact .stop
        exact .stop
      refine .alt ?_ ?_
      · refine .v rfl rfl rfl rfl (.alloc rfl rfl) (by rintro _ _ ⟨_, hN⟩; exact (Ext.refl _).trans hN.ext0) ?_
        rintro _ w23 ⟨rfl, N23⟩
        have z23 := N23.size
        have hX23 : Ext (fun k => w86.heap.size ≤ k) _ _ := (Ext.refl _).trans (N23.ext0)
        refine .alt ?_ ?_
        · refine .v rfl rfl rfl rfl (.make (eb := 1) rfl rfl rfl rfl rfl rfl rfl rfl (by omega)) (by rintro _ _ ⟨_, hN⟩; exact hX23.trans hN.ext0) ?_
          rintro _ w91 ⟨rfl, N91⟩
          have z91 := N91.size
          have hX91 : Ext (fun k => w86.heap.size ≤ k) _ _ := hX23.trans (N91.ext0)
          refine .alt ?_ ?_
          · refine .call (first := []) (captured := []) rfl rfl rfl rfl rfl rfl (WriteX_fn (allOf (tDisk.ext Rmx hX91 (by intro k hk _ he; have he : w86.heap.size ≤ k := he; omega))) (by first | exact zeros_own N91 (by simp only [Lim]; omega) rfl trivial | exact tBytes.ext0 (zeros_own N91 (by simp only [Lim]; omega) rfl trivial) N23.ext)) (by rintro _ _ ⟨_, _, _, _, hx⟩; exact hX91.trans (hx.mono (fun _ _ h => h.elim))) ?_
            rintro _ w92 ⟨v92, x92, rfl, R92, X92⟩
            have z92 := X92.size
            obtain ⟨f6, g6, p6, q6, rfl⟩ := tDisk.shape R92
            have hX92 : Ext (fun k => w86.heap.size ≤ k) _ _ := hX91.trans (X92.mono (fun _ _ h => h.elim))
            refine .p rfl rfl rfl rfl (fun wx hx => .mv rfl) ?_
            refine .p rfl rfl rfl rfl (fun wx hx => .extract rfl rfl) ?_
            refine .p rfl rfl rfl rfl (fun wx hx => .extract rfl rfl) ?_
            refine .alt ?_ ?_
            · refine .s rfl rfl rfl (.storeAll (n := 3) (E := 25) (cs := [i64 0, .slice none 0 0, .slice none 0 0]) rfl rfl rfl rfl rfl (by first | exact N23.blk | exact N23.blk.ext X92 (fun x => x) | exact (N23.blk.ext N91.ext (fun x => x)).ext X92 (fun x => x)) rfl) (by intro wz hP; exact hX92.trans (hP.ext.mono (by rintro k _ rfl; show w86.heap.size ≤ _; omega))) ?_
              intro w147 P23
              have hXs7 : Ext (fun k => w86.heap.size ≤ k) _ _ := hX92.trans (P23.ext.mono (by rintro k _ rfl; show w86.heap.size ≤ _; omega))
              refine .p rfl rfl rfl rfl (fun wx hx => .as rfl) ?_
              refine .nil ?_
              exact (meet (⟨⟩, w147) ((Ext.refl w86).then hXs7 (fun k hk _ => hk))).of ⟨rfl, rfl, rfl, rfl, rfl, rfl, rfl, trivial⟩
            exact .stop
          exact .stop
        exact .stop
      exact .stop
  · intro meet
    refine .tree (fun k => w1.heap.size ≤ k) [1, 2, 6, 7] (.op 0 (.alt 1 (.op 1 (.alt 2 (.op 2 (.op 3 (.op 4 (.op 5 (.alt 6 (.op 6 (.alt 7 (.op 7 (.op 8 (.nil))) (.stop))) (.stop)))))) (.alt 6 (.op 6 (.alt 2 (.op 2 (.op 3 (.op 4 (.op 5 (.alt 7 (.op 7 (.op 8 (.nil))) (.stop)))))) (.stop))) (.stop)))) (.alt 6 (.op 6 (.alt 1 (.op 1 (.alt 2 (.op 2 (.op 3 (.op 4 (.op 5 (.alt 7 (.op 7 (.op 8 (.nil))) (.stop)))))) (.stop))) (.stop))) (.stop)))) (by kernel_rfl) (by kernel_rfl) (by kernel_rfl) ?_
    refine .p rfl rfl rfl rfl (fun wx hx => .loadA (n := 3) rfl rfl rfl rfl rfl (B1.ext hx (by show ¬ (w1.heap.size ≤ w10.heap.size); omega)).cells) ?_
    refine .alt ?_ ?_
    · refine .call (first := []) (captured := []) rfl rfl rfl rfl rfl rfl (ones_fn (x := 1)) (by rintro _ _ ⟨_, _, _, hx⟩; exact (Ext.refl _).trans (hx.mono (fun _ _ h => h.elim))) ?_
      rintro r15 w31 ⟨b15, O15, hb15, X31⟩
      have z15 := X31.size
      obtain ⟨a15, c15, rfl, _⟩ := O15.val
      have R15 := own_below O15
      have hX31 : Ext (fun k => w1.heap.size ≤ k) _ _ := (Ext.refl _).trans (X31.mono (fun _ _ h => h.elim))
      refine .alt ?_ ?_
      · refine .call (first := []) (captured := []) rfl rfl rfl rfl rfl rfl (Write2_fn (allOf (tDisk.ext (tDisk.ext0 R10 X1) hX31 (by intro k hk _ he; have he : w1.heap.size ≤ k := he; omega))) (by first | exact allOf R15 | exact allOf (tBytes.ext0 R15 N3.ext))) (by rintro _ _ ⟨_, _, _, hx⟩; exact hX31.trans (hx.mono (fun _ _ h => h.elim))) ?_
        rintro _ w32 ⟨v32, rfl, R32, X32⟩
        have z32 := X32.size
        obtain ⟨x32, y32, p32, q32, rfl⟩ := tDisk.shape R32
        have hX32 : Ext (fun k => w1.heap.size ≤ k) _ _ := hX31.trans (X32.mono (fun _ _ h => h.elim))
        refine .p rfl rfl rfl rfl (fun wx hx => .mv rfl) ?_
        refine .p rfl rfl rfl rfl (fun wx hx => .extract rfl rfl) ?_
        refine .p rfl rfl rfl rfl (fun wx hx => .extract rfl rfl) ?_
        refine .alt ?_ ?_
        · refine .v rfl rfl rfl rfl (.alloc rfl rfl) (by rintro _ _ ⟨_, hN⟩; exact hX32.trans hN.ext0) ?_
          rintro _ w3 ⟨rfl, N3⟩
          have z3 := N3.size
          have hX3 : Ext (fun k => w1.heap.size ≤ k) _ _ := hX32.trans (N3.ext0)
          refine .alt ?_ ?_
          · refine .s rfl rfl rfl (.storeAll (n := 3) (E := 25) (cs := [i64 0, .slice none 0 0, .slice none 0 0]) rfl rfl rfl rfl rfl (by first | exact N3.blk | exact N3.blk.ext X32 (fun x => x) | exact (N3.blk.ext X31 (fun x => x)).ext X32 (fun x => x)) rfl) (by intro wz hP; exact hX3.trans (hP.ext.mono (by rintro k _ rfl; show w1.heap.size ≤ _; omega))) ?_
            intro w7 P3
            have hXs7 : Ext (fun k => w1.heap.size ≤ k) _ _ := hX3.trans (P3.ext.mono (by rintro k _ rfl; show w1.heap.size ≤ _; omega))
            refine .p rfl rfl rfl rfl (fun wx hx => .as rfl) ?_
            refine .nil ?_
            have z7 := P3.size
            exact (meet (w32.heap.size, (x32, y32, p32, q32), w7) ⟨P3.blk, allOf (tDisk.ext (tDisk.ext0 R32 N3.ext) P3.ext (fun k hk _ he => by have he : k = w32.heap.size := he; omega)), (Ext.refl w1).then hXs7 (fun k hk _ => hk), by show w32.heap.size < w7.heap.size; omega⟩).of ⟨rfl, trivial⟩
          exact .stop
        exact .stop
      refine .alt ?_ ?_
      · refine .v rfl rfl rfl rfl (.alloc rfl rfl) (by rintro _ _ ⟨_, hN⟩; exact hX31.trans hN.ext0) ?_
        rintro _ w3 ⟨rfl, N3⟩
        have z3 := N3.size
        have hX3 : Ext (fun k => w1.heap.size ≤ k) _ _ := hX31.trans (N3.ext0)
        refine .alt ?_ ?_
        · refine .call (first := []) (captured := []) rfl rfl rfl rfl rfl rfl (Write2_fn (allOf (tDisk.ext (tDisk.ext0 R10 X1) hX3 (by intro k hk _ he; have he : w1.heap.size ≤ k := he; omega))) (by first | exact allOf R15 | exact allOf (tBytes.ext0 R15 N3.ext))) (by rintro _ _ ⟨_, _, _, hx⟩; exact hX3.trans (hx.mono (fun _ _ h => h.elim))) ?_
          rintro _ w32 ⟨v32, rfl, R32, X32⟩
          have z32 := X32.size
          obtain ⟨x32, y32, p32, q32, rfl⟩ := tDisk.shape R32
          have hX32 : Ext (fun k => w1.heap.size ≤ k) _ _ := hX3.trans (X32.mono (fun _ _ h => h.elim))
          refine .p rfl rfl rfl rfl (fun wx hx => .mv rfl) ?_
          refine .p rfl rfl rfl rfl (fun wx hx => .extract rfl rfl) ?_
          refine .p rfl rfl rfl rfl (fun wx hx => .extract rfl rfl) ?_
          refine .alt ?_ ?_
          · refine .s rfl rfl rfl (.storeAll (n := 3) (E := 25) (cs := [i64 0, .slice none 0 0, .slice none 0 0]) rfl rfl rfl rfl rfl (by first | exact N3.blk | exact N3.blk.ext X32 (fun x => x) | exact (N3.blk.ext X31 (fun x => x)).ext X32 (fun x => x)) rfl) (by intro wz hP; exact hX32.trans (hP.ext.mono (by rintro k _ rfl; show w1.heap.size ≤ _; omega))) ?_
            intro w7 P3
            have hXs7 : Ext (fun k => w1.heap.size ≤ k) _ _ := hX32.trans (P3.ext.mono (by rintro k _ rfl; show w1.heap.size ≤ _; omega))
            refine .p rfl rfl rfl rfl (fun wx hx => .as rfl) ?_
            refine .nil ?_
            have z7 := P3.size
            exact (meet (w31.heap.size, (x32, y32, p32, q32), w7) ⟨P3.blk, allOf (tDisk.ext (R32) P3.ext (fun k hk _ he => by have he : k = w31.heap.size := he; omega)), (Ext.refl w1).then hXs7 (fun k hk _ => hk), by show w31.heap.size < w7.heap.size; omega⟩).of ⟨rfl, trivial⟩
          exact .stop
        exact .stop
      exact .stop
    refine .alt ?_ ?_
    · refine .v rfl rfl rfl rfl (.alloc rfl rfl) (by rintro _ _ ⟨_, hN⟩; exact (Ext.refl _).trans hN.ext0) ?_
      rintro _ w3 ⟨rfl, N3⟩
      have z3 := N3.size
      have hX3 : Ext (fun k => w1.heap.size ≤ k) _ _ := (Ext.refl _).trans (N3.ext0)
      refine .alt ?_ ?_
      · refine .call (first := []) (captured := []) rfl rfl rfl rfl rfl rfl (ones_fn (x := 1)) (by rintro _ _ ⟨_, _, _, hx⟩; exact hX3.trans (hx.mono (fun _ _ h => h.elim))) ?_
        rintro r15 w31 ⟨b15, O15, hb15, X31⟩
        have z15 := X31.size
        obtain ⟨a15, c15, rfl, _⟩ := O15.val
        have R15 := own_below O15
        have hX31 : Ext (fun k => w1.heap.size ≤ k) _ _ := hX3.trans (X31.mono (fun _ _ h => h.elim))
        refine .alt ?_ ?_
        · refine .call (first := []) (captured := []) rfl rfl rfl rfl rfl rfl (Write2_fn (allOf (tDisk.ext (tDisk.ext0 R10 X1) hX31 (by intro k hk _ he; have he : w1.heap.size ≤ k := he; omega))) (by first | exact allOf R15 | exact allOf (tBytes.ext0 R15 N3.ext))) (by rintro _ _ ⟨_, _, _, hx⟩; exact hX31.trans (hx.mono (fun _ _ h => h.elim))) ?_
          rintro _ w32 ⟨v32, rfl, R32, X32⟩
          have z32 := X32.size
          obtain ⟨x32, y32, p32, q32, rfl⟩ := tDisk.shape R32
          have hX32 : Ext (fun k => w1.heap.size ≤ k) _ _ := hX31.trans (X32.mono (fun _ _ h => h.elim))
          refine .p rfl rfl rfl rfl (fun wx hx => .mv rfl) ?_
          refine .p rfl rfl rfl rfl (fun wx hx => .extract rfl rfl) ?_
          refine .p rfl rfl rfl rfl (fun wx hx => .extract rfl rfl) ?_
          refine .alt ?_ ?_
          · refine .s rfl rfl rfl (.storeAll (n := 3) (E := 25) (cs := [i64 0, .slice none 0 0, .slice none 0 0]) rfl rfl rfl rfl rfl (by first | exact N3.blk | exact N3.blk.ext X32 (fun x => x) | exact (N3.blk.ext X31 (fun x => x)).ext X32 (fun x => x)) rfl) (by intro wz hP; exact hX32.trans (hP.ext.mono (by rintro k _ rfl; show w1.heap.size ≤ _; omega))) ?_
            intro w7 P3
            have hXs7 : Ext (fun k => w1.heap.size ≤ k) _ _ := hX32.trans (P3.ext.mono (by rintro k _ rfl; show w1.heap.size ≤ _; omega))
            refine .p rfl rfl rfl rfl (fun wx hx => .as rfl) ?_
            refine .nil ?_
            have z7 := P3.size
            exact (meet (w1.heap.size, (x32, y32, p32, q32), w7) ⟨P3.blk, allOf (tDisk.ext (R32) P3.ext (fun k hk _ he => by have he : k = w1.heap.size := he; omega)), (Ext.refl w1).then hXs7 (fun k hk _ => hk), by show w1.heap.size < w7.heap.size; omega⟩).of ⟨rfl, trivial⟩
          exact .stop
        exact .stop
      exact .stop
    exact .stop
end Go.Proofs.Ytfgjpiemnfefmaa
