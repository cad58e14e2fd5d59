import Derived.Test.YtpfehnopghffjaaGreatDoorQ15
import Derived.Test.YtpfehnopghffjaaGreatDoorRows
import Derived.Test.YtpfehnopghffjaaGreatDoorQ02
import Derived.Test.YtpfehnopghffjaaGreatDoorQ05
set_option linter.unusedVariables false
set_option linter.unusedSimpArgs false
set_option maxRecDepth 20000
namespace Go.Proofs.YtpfehnopghffjaaGreatDoor
open Go
open room files
namespace files
def largeP (d : Disk) : Prop := (40000 < d.data.length ∧ 0 < d.count ∧ d.count ≤ 4096) ∨ 600000 < d.data.length ∨ 300 < d.waits.length
instance (d : Disk) : Decidable (files.largeP d) := by unfold files.largeP; infer_instance
def textAt (i : Nat) : UInt8 := UInt8.ofNat (97 + (i : Int) % 7).toNat
def text7 (n : Nat) : Bs := (List.range n).map textAt
theorem text7_length (n : Nat) : (text7 n).length = n := by simp [text7]
theorem text7_step (n : Nat) : text7 (n + 1) = text7 n ++ [textAt n] := by simp [text7, List.range_succ]
theorem actsO_rep {B Q : Nat → Prop} {E : TypeId} {w : World} {v : Value} {l : List disk.Act} (h : OwnO disk.tActO Q E w v l B) : (Sl disk.tAct).rep All w v l := Sl.imp (OwnO.rep h (R := All) (fun _ _ _ => trivial) (fun _ _ _ => trivial)) (fun u x hx => disk.tActO.weak hx)
end files
theorem diskShape {P : Nat → Prop} {w : World} {v : Value} {d : Disk} (h : disk.tDisk.rep P w v d) : ∃ a1 c1 a2 c2, v = .agg #[i64 d.count, .slice a1 d.data.length c1, .slice a2 d.waits.length c2] := by
  obtain ⟨u1, u2, rfl, h1, h2, _⟩ := disk.tDisk.val h
  obtain ⟨a1, c1, rfl, _⟩ := Sl.val h1
  obtain ⟨a2, c2, rfl, _⟩ := Sl.val h2
  exact ⟨a1, c1, a2, c2, rfl⟩
theorem lawPut_fn {w : World} {a b : Bs} : Fn Tryz.prog 39 [str a, str b] w (fun r w2 => r = .agg #[str a, str b, .bool false] ∧ Ext (fun _ => False) w w2) := by
  refine Fn.enter (fun w => Tryz.call39 _ w) Tryz.func39 rfl ?_
  refine .seq (.region ?_)
  refine .v rfl rfl (.alloc rfl rfl) ?_
  rintro _ wn4 ⟨rfl, N4⟩
  refine .nil (.code (.seq (.region ?_)))
  refine .p rfl rfl (.mv rfl) ?_
  refine .p rfl rfl (.mv rfl) ?_
  refine .p rfl rfl (.build (cs := [str a, str b, .bool false]) rfl (fun _ => by kernel_rfl)) ?_
  refine .s rfl (.storeAll (n := 3) rfl rfl rfl rfl rfl N4.blk rfl) ?_
  intro w4 P4
  have Y4 := N4.ext.then P4.ext (by rintro k rfl _; exact Nat.le_refl _)
  have zy4 := Y4.size
  have B4 := P4.blk
  clear P4 N4
  refine .nil (.code ?_)
  refine .retR (.cell (n := 3) rfl rfl rfl rfl rfl (B4.cells) .nil) ?_
  exact ⟨rfl, Y4⟩
theorem text_fn {w : World} {n : Nat} (hn : n ≤ 100000) : Fn Tryz.prog 40 [i64 (n : Nat)] w (fun r w2 => r = str (text7 n) ∧ Ext (fun _ => False) w w2) := by
  refine Fn.enter (fun w => Tryz.call40 _ w) Tryz.func40 rfl ?_
  refine .seq (.region ?_)
  refine .p rfl rfl (.as rfl) ?_
  refine .nil (.code (.seq (.keep [(0, _)] ⟨rfl, trivial⟩ (.region ?_))))
  refine .p rfl rfl (.mv rfl) ?_
  refine .v rfl rfl (.make (eb := 1) rfl rfl rfl rfl rfl rfl rfl rfl (by omega)) ?_
  rintro _ w6 ⟨rfl, N6⟩
  have z6 := N6.size
  refine .p rfl rfl (.as rfl) ?_
  refine .nil (.code (.seq (.seq (.keep [(3, _), (0, _)] ⟨rfl, rfl, trivial⟩ (.region ?_)))))
  refine .p rfl rfl (.as rfl) ?_
  refine .nil (.code (.block ?_))
  refine .loop (S := Nat × World) (fun s => [(0, i64 (n : Nat)), (3, .slice (some ⟨w.heap.size, 0, none⟩) n n), (4, i64 s.1)]) (fun s => s.2) (fun s => s.1 ≤ n ∧ Blk s.2 w.heap.size 5 ((text7 s.1).map u8 ++ List.replicate (n - s.1) (u8 0)) ∧ Ext (fun _ => False) w s.2) (fun s => n - s.1) (0, w6) ⟨rfl, rfl, rfl, trivial⟩ rfl ⟨Nat.zero_le _, N6.blk, N6.ext⟩ ?_
  rintro ⟨k, wk⟩ J ⟨hk', hB, hX⟩ again
  simp only at hk' hB hX
  change G _ [(0, i64 (n : Nat)), (3, .slice (some ⟨w.heap.size, 0, none⟩) n n), (4, i64 k)] _ _ wk
  refine .seq (.seq (.region ?_))
  refine .p rfl rfl (.mv rfl) ?_
  refine .p rfl rfl (.mv rfl) ?_
  refine .p rfl rfl (.lt rfl rfl) ?_
  refine .nil (.code (.keep [(9, _), (0, _), (3, _), (4, _)] ⟨rfl, rfl, rfl, rfl, trivial⟩ ?_))
  refine .condD rfl (fun c9 => ?_) (fun c9 => ?_)
  · refine .skip (.code (.seq (.block (.keep [(0, _), (3, _), (4, _)] ⟨rfl, rfl, rfl, trivial⟩ (.region ?_)))))
    refine .p rfl rfl (.mv rfl) ?_
    refine .p rfl rfl (.mv rfl) ?_
    refine .p rfl rfl (.mv rfl) ?_
    refine .p rfl rfl (.rem rfl rfl (by omega)) ?_
    refine .p rfl rfl (.add rfl rfl (by omega)) ?_
    refine .p rfl rfl (.convB rfl rfl rfl (by omega)) ?_
    refine .p rfl rfl (.cast (.indexAddr1 rfl rfl rfl rfl (by omega)) (show _ = Value.pointer (some ⟨w.heap.size, k, none⟩) by simp)) ?_
    refine .s rfl (.store rfl rfl rfl rfl rfl hB (by simp [text7_length]; omega)) ?_
    intro w18 P18
    refine .nil (.blk (.code (.keep [(0, _), (3, _), (4, _)] ⟨rfl, rfl, rfl, trivial⟩ (.region ?_))))
    refine .p rfl rfl (.mv rfl) ?_
    refine .p rfl rfl (.add rfl rfl (by omega)) ?_
    refine .p rfl rfl (.as rfl) ?_
    refine .nil ?_
    refine (again (k + 1, w18) ⟨by show k + 1 ≤ _; omega, ?_, hX.then P18.ext (by rintro k rfl _; exact Nat.le_refl _)⟩ (by show _ - (k + 1) < _ - k; omega)).of ⟨rfl, rfl, rfl, trivial⟩
    have B6 := P18.blk
    rw [List.set_append_right _ _ (by simp [text7_length]), List.length_map, text7_length, Nat.sub_self, show n - k = (n - (k + 1)) + 1 by omega, List.replicate_succ, List.set_cons_zero] at B6
    show Blk w18 _ _ ((text7 (k + 1)).map u8 ++ List.replicate (n - (k + 1)) (u8 0))
    rw [text7_step, List.map_append, List.append_assoc]
    exact B6
  · obtain rfl : k = n := by omega
    refine .exit rfl (.code (.seq (.keep [(3, _)] ⟨rfl, trivial⟩ (.region ?_))))
    refine .p rfl rfl (.mv rfl) ?_
    refine .p rfl rfl (.bytesStr rfl (Own.rep (Q' := All) (Own.ofBlk (Q := fun _ => False) (l := text7 k) (n := k) (cap := k) (sp := []) (by simpa using hB) (by rw [text7_length]; simp [Lim]; omega) (text7_length k).symm (by simp [text7_length])) trivial (fun _ h _ => h.elim)) rfl rfl rfl) ?_
    refine .p rfl rfl (.as rfl) ?_
    refine .nil (.code ?_)
    refine .ret _ rfl ?_
    exact ⟨rfl, hX⟩
theorem turned_fn {w : World} {v vl : Value} {d : Disk} {l : List Change} {P0 : Nat → Prop} (h : disk.tDisk.rep P0 w v d) (hl : (Sl tree.tChange).rep All w vl l) (hg : GOK w) : Fn Tryz.prog 41 [v, vl] w (fun r w2 => ∃ v', r = .tuple #[v', i64 (turnedF d l).2] ∧ disk.tDisk.rep (fun k => (P0 k ∧ k < w.heap.size) ∨ w.heap.size ≤ k) w2 v' (turnedF d l).1 ∧ Ext (fun _ => False) w w2) := by
  have hp := h
  replace h := allOf h
  have h0 := h
  obtain ⟨u1, u2, rfl, hd1, hd2, hdc⟩ := disk.tDisk.val h
  obtain ⟨a1, k1, rfl, _⟩ := Sl.val hd1
  obtain ⟨a2, k2, rfl, _⟩ := Sl.val hd2
  refine Fn.enter (fun w => Tryz.call41 _ w) Tryz.func41 rfl ?_
  refine .seq (.region ?_)
  refine .v rfl rfl (.box rfl) ?_
  rintro _ w2 ⟨rfl, N2⟩
  have B2 := N2.blk
  have X2 := N2.ext
  have z2 := N2.size
  refine .v rfl rfl (.alloc rfl rfl) ?_
  rintro _ wn4 ⟨rfl, N4⟩
  have X4 := N4.ext
  have z4 := N4.size
  have B4 := N4.blk
  refine .p rfl rfl (.as rfl) ?_
  refine .nil (.code (.seq (.keep [(4, _), (2, _), (1, _)] ⟨rfl, rfl, rfl, trivial⟩ (.region ?_))))
  refine .p rfl rfl (.loadA (n := 3) rfl rfl rfl rfl rfl (B2.ext (S := fun _ => False) (by repeat (first | exact Ext.refl _ | assumption | refine Ext.trans (by assumption) ?_)) (fun x => x)).cells) ?_
  refine .p rfl rfl (.mv rfl) ?_
  refine .call (first := []) (captured := []) rfl rfl rfl rfl (Turn_fn (d := d) (l := l) (disk.tDisk.ext0 h0 (by repeat (first | exact Ext.refl _ | assumption | refine Ext.trans (by assumption) ?_))) ((Sl tree.tChange).ext0 hl (by repeat (first | exact Ext.refl _ | assumption | refine Ext.trans (by assumption) ?_))) (hg.ext0 (by repeat (first | exact Ext.refl _ | assumption | refine Ext.trans (by assumption) ?_)))) ?_
  rintro _ w12 ⟨v12, Q12, B12, rfl, O12, hQ12, hB12, X12⟩
  have z12 := X12.size
  refine .p rfl rfl (.mv rfl) ?_
  refine .p rfl rfl (.extract rfl rfl) ?_
  refine .p rfl rfl (.extract rfl rfl) ?_
  refine .p rfl rfl (.as rfl) ?_
  refine .p rfl rfl (.as rfl) ?_
  refine .nil (.code (.seq (.seq (.keep [(7, _), (6, _), (4, _), (2, _)] ⟨rfl, rfl, rfl, rfl, trivial⟩ (.region ?_)))))
  refine .p rfl rfl (.mv rfl) ?_
  refine .p rfl rfl (.ne rfl rfl) ?_
  refine .nil (.code (.keep [(16, _), (7, _), (6, _), (4, _), (2, _)] ⟨rfl, rfl, rfl, rfl, rfl, trivial⟩ ?_))
  refine .condD rfl (fun c16 => ?_) (fun c16 => ?_)
  · refine .seq (.keep [(7, _), (4, _), (2, _)] ⟨rfl, rfl, rfl, trivial⟩ (.region ?_))
    refine .p rfl rfl (.loadA (n := 3) rfl rfl rfl rfl rfl (B2.ext (S := fun _ => False) (by repeat (first | exact Ext.refl _ | assumption | refine Ext.trans (by assumption) ?_)) (fun x => x)).cells) ?_
    refine .p rfl rfl (.mv rfl) ?_
    refine .s rfl (.storeAll (n := 3) rfl rfl rfl rfl rfl (B4.ext (S := fun _ => False) (by repeat (first | exact Ext.refl _ | assumption | refine Ext.trans (by assumption) ?_)) (fun x => x)) rfl) ?_
    intro w17 P17
    refine .p rfl rfl (.as rfl) ?_
    refine .nil (.code ?_)
    refine .retR (.cell (n := 3) rfl rfl rfl rfl rfl (P17.blk.cells) (.tmp rfl .nil)) ?_
    have XW : Ext (fun _ => False) w w17 := Ext.then (by repeat (first | exact Ext.refl _ | assumption | refine Ext.trans (by assumption) ?_)) P17.ext (by rintro k rfl _; omega)
    unfold turnedF
    rw [if_pos c16]
    exact ⟨_, rfl, disk.tDisk.ext0 (disk.tDisk.mono hp (fun k h hl => .inl ⟨h, hl⟩)) XW, XW⟩
  · refine .skip (.code (.seq (.keep [(6, _), (4, _), (2, _)] ⟨rfl, rfl, rfl, trivial⟩ (.region ?_))))
    refine .p rfl rfl (.loadA (n := 3) rfl rfl rfl rfl rfl (B2.ext (S := fun _ => False) (by repeat (first | exact Ext.refl _ | assumption | refine Ext.trans (by assumption) ?_)) (fun x => x)).cells) ?_
    refine .p rfl rfl (.mv rfl) ?_
    refine .call (first := []) (captured := []) rfl rfl rfl rfl (Do_fn (d := d) (l := (turnF d l).1) (disk.tDisk.ext0 h0 (by repeat (first | exact Ext.refl _ | assumption | refine Ext.trans (by assumption) ?_))) (actsO_rep (OwnO.ext0 O12 (by repeat (first | exact Ext.refl _ | assumption | refine Ext.trans (by assumption) ?_))))) ?_
    rintro _ w22 ⟨v22, rfl, D22, X22⟩
    have z22 := X22.size
    obtain ⟨x1, y1, x2, y2, rfl⟩ := D22.val
    refine .p rfl rfl (.mv rfl) ?_
    refine .p rfl rfl (.extract rfl rfl) ?_
    refine .p rfl rfl (.extract rfl rfl) ?_
    refine .v rfl rfl (.alloc rfl rfl) ?_
    rintro _ wn8 ⟨rfl, N8⟩
    refine .s rfl (.storeAll (n := 3) rfl rfl rfl rfl rfl N8.blk rfl) ?_
    intro w8 P8
    have Y8 := N8.ext.then P8.ext (by rintro k rfl _; exact Nat.le_refl _)
    have zy8 := Y8.size
    have B8 := P8.blk
    clear P8 N8
    refine .p rfl rfl (.as rfl) ?_
    refine .nil (.code (.seq (.keep [(7, _), (8, _), (4, _)] ⟨rfl, rfl, rfl, trivial⟩ (.region ?_))))
    refine .p rfl rfl (.loadA (n := 3) rfl rfl rfl rfl rfl (B8.ext (S := fun _ => False) (by repeat (first | exact Ext.refl _ | assumption | refine Ext.trans (by assumption) ?_)) (fun x => x)).cells) ?_
    refine .p rfl rfl (.mv rfl) ?_
    refine .s rfl (.storeAll (n := 3) rfl rfl rfl rfl rfl (B4.ext (S := fun _ => False) (by repeat (first | exact Ext.refl _ | assumption | refine Ext.trans (by assumption) ?_)) (fun x => x)) rfl) ?_
    intro w25 P25
    refine .p rfl rfl (.as rfl) ?_
    refine .nil (.code ?_)
    refine .retR (.cell (n := 3) rfl rfl rfl rfl rfl (P25.blk.cells) (.tmp rfl .nil)) ?_
    have XV : Ext (fun _ => False) w w8 := (by repeat (first | exact Ext.refl _ | assumption | refine Ext.trans (by assumption) ?_))
    have XW : Ext (fun _ => False) w w25 := XV.then P25.ext (by rintro k rfl _; omega)
    unfold turnedF
    rw [if_neg c16]
    exact ⟨_, rfl, disk.tDisk.mono (disk.tDisk.ext (disk.tDisk.ext0 D22.rep (by repeat (first | exact Ext.refl _ | assumption | refine Ext.trans (by assumption) ?_))) P25.ext (by rintro k hk _ rfl; have hk : w12.heap.size ≤ _ := hk; omega)) (fun k h _ => .inr (by have h : w12.heap.size ≤ k := h; omega)), XW⟩
end Go.Proofs.YtpfehnopghffjaaGreatDoor
namespace Go.Proofs.YtpfehnopghffjaaGreatDoor
open Go
open room files
attribute [local irreducible] files.text7 files.turnedF files.getF files.formatF files.F100
theorem filesAlive_fn {w : World} (hg : GOK w) : Fn Tryz.prog 35 [] w (fun r w2 => r = .bool true ∧ Ext (fun _ => False) w w2) := by
  obtain ⟨x, hx1, hx2, hx3⟩ := alive_ex (text7_length 130)
  obtain ⟨T130, hT130⟩ : ∃ t, t = text7 130 := ⟨_, rfl⟩
  have hTl : T130.length = 130 := by rw [hT130]; exact text7_length 130
  rw [← hT130] at hx1 hx2 hx3
  refine Fn.enter (fun w => Tryz.call35 _ w) Tryz.func35 rfl ?_
  refine .seq (.region ?_)
  refine .p rfl rfl (.as rfl) ?_
  refine .nil (.code (.seq (.keep [] trivial (.region ?_))))
  refine .call (first := []) (captured := []) rfl rfl rfl rfl (Format_fn (n := 100) hg (by omega)) ?_
  rintro _ w8 ⟨v8, rfl, R8, X8⟩
  have z8 := X8.size
  rw [f100] at R8 ⊢
  obtain ⟨a1, k1, a2, k2, rfl⟩ := diskShape R8
  refine .p rfl rfl (.mv rfl) ?_
  refine .p rfl rfl (.extract rfl rfl) ?_
  refine .p rfl rfl (.extract rfl rfl) ?_
  refine .v rfl rfl (.alloc rfl rfl) ?_
  rintro _ wn1 ⟨rfl, N1⟩
  refine .s rfl (.storeAll (n := 3) rfl rfl rfl rfl rfl N1.blk rfl) ?_
  intro w1 P1
  have Y1 := N1.ext.then P1.ext (by rintro k rfl _; exact Nat.le_refl _)
  have zy1 := Y1.size
  have B1 := P1.blk
  clear P1 N1
  have hl1 := B1.lt
  have hg1 : GOK w1 := hg.ext0 (X8.trans Y1)
  refine .p rfl rfl (.as rfl) ?_
  refine .nil (.code (.seq (.keep [(2, _), (1, _)] ⟨rfl, rfl, trivial⟩ ?_)))
  refine .meet (S := Nat × (Option Addr × Nat × Option Addr × Nat) × World) (fun s => [(2, i64 0), (3, .pointer (some ⟨s.1, 0, none⟩)), (4, i64 0)]) (fun s => s.2.2) (fun s => Blk s.2.2 s.1 44 [i64 x.count, .slice s.2.1.1 x.data.length s.2.1.2.1, .slice s.2.1.2.2.1 x.waits.length s.2.1.2.2.2] ∧ disk.tDisk.rep All s.2.2 (.agg #[i64 x.count, .slice s.2.1.1 x.data.length s.2.1.2.1, .slice s.2.1.2.2.1 x.waits.length s.2.1.2.2.2]) x ∧ Ext (fun _ => False) w1 s.2.2) ?_ ?_
  · rintro ⟨p, ⟨x16, y16, p16, q16⟩, wm⟩ ⟨Bm, Rm, Xm⟩
    simp only at Bm Rm Xm
    change A _ [(2, i64 0), (3, .pointer (some ⟨p, 0, none⟩)), (4, i64 0)] _ wm
    refine .code (.seq (.region ?_))
    refine .p rfl rfl (.loadA (n := 3) rfl rfl rfl rfl rfl Bm.cells) ?_
    refine .call (first := []) (captured := []) rfl rfl rfl rfl (FileGet_fn (d := x) (s := [97]) Rm (by decide) (hg1.ext0 Xm)) ?_
    rintro _ w21 ⟨v21, rfl, G21, X21⟩
    have z21 := X21.size
    rw [hx3] at G21 ⊢
    obtain ⟨a21, k21, rfl, _⟩ := OwnO.val G21
    refine .p rfl rfl (.mv rfl) ?_
    refine .p rfl rfl (.extract rfl rfl) ?_
    refine .p rfl rfl (.extract rfl rfl) ?_
    refine .p rfl rfl (.as rfl) ?_
    refine .p rfl rfl (.as rfl) ?_
    refine .nil (.code (.seq (.keep [(6, _), (5, _), (2, _), (4, _)] ⟨rfl, rfl, rfl, rfl, trivial⟩ (.mix (fun _ => False) [13] (by kernel_rfl) (by kernel_rfl) (by kernel_rfl) ?_))))
    refine .p rfl rfl rfl (fun wx hx => .mv rfl) ?_
    refine .p rfl rfl rfl (fun wx hx => .yes (.eq rfl rfl) (rfl)) ?_
    refine .p rfl rfl rfl (fun wx hx => .mv rfl) ?_
    refine .p rfl rfl rfl (fun wx hx => .mv rfl) ?_
    refine .p rfl rfl rfl (fun wx hx => .yes (.eq rfl rfl) (rfl)) ?_
    refine .p rfl rfl rfl (fun wx hx => .pickT rfl rfl) ?_
    refine .p rfl rfl rfl (fun wx hx => .mv rfl) ?_
    refine .p rfl rfl rfl (fun wx hx => .mv rfl) ?_
    refine .p rfl rfl rfl (fun wx hx => .yes (.eq rfl rfl) (rfl)) ?_
    refine .p rfl rfl rfl (fun wx hx => .pickT rfl rfl) ?_
    refine .p rfl rfl rfl (fun wx hx => .mv rfl) ?_
    refine .p rfl rfl rfl (fun wx hx => .mv rfl) ?_
    refine .p rfl rfl rfl (fun wx hx => .bytesStr rfl (Gr.rep (Gr.ext0 G21 (Ext.trans (by repeat (first | exact Ext.refl _ | assumption | refine Ext.trans (by assumption) ?_)) hx))) rfl rfl rfl) ?_
    refine .call (first := []) (captured := []) rfl rfl rfl rfl rfl (text_fn (n := 130) (by decide)) (by rintro _ _ ⟨_, hx⟩; exact Ext.trans (by repeat (first | exact Ext.refl _ | assumption | refine Ext.trans (by assumption) ?_)) hx) ?_
    rintro _ w37 ⟨rfl, X37⟩
    rw [← hT130]
    refine .p rfl rfl rfl (fun wx hx => .yes (.eqS rfl rfl) (rfl)) ?_
    refine .p rfl rfl rfl (fun wx hx => .pickT rfl rfl) ?_
    refine .p rfl rfl rfl (fun wx hx => .as rfl) ?_
    refine .nil (.code ?_)
    refine .ret _ rfl ?_
    exact ⟨rfl, (by repeat (first | exact Ext.refl _ | assumption | refine Ext.trans (by assumption) ?_))⟩
  · intro meet
    refine .tree (fun k => w1.heap.size ≤ k) [1, 2, 3, 4, 8, 9] (.op 0 (.alt 1 (.op 1 (.alt 2 (.op 2 (.alt 3 (.op 3 (.alt 4 (.op 4 (.op 5 (.op 6 (.op 7 (.alt 8 (.op 8 (.alt 9 (.op 9 (.op 10 (.nil))) (.stop))) (.stop)))))) (.alt 8 (.op 8 (.alt 4 (.op 4 (.op 5 (.op 6 (.op 7 (.alt 9 (.op 9 (.op 10 (.nil))) (.stop)))))) (.stop))) (.stop)))) (.alt 8 (.op 8 (.alt 3 (.op 3 (.alt 4 (.op 4 (.op 5 (.op 6 (.op 7 (.alt 9 (.op 9 (.op 10 (.nil))) (.stop)))))) (.stop))) (.stop))) (.stop)))) (.alt 8 (.op 8 (.alt 2 (.op 2 (.alt 3 (.op 3 (.alt 4 (.op 4 (.op 5 (.op 6 (.op 7 (.alt 9 (.op 9 (.op 10 (.nil))) (.stop)))))) (.stop))) (.stop))) (.stop))) (.stop)))) (.alt 8 (.op 8 (.alt 1 (.op 1 (.alt 2 (.op 2 (.alt 3 (.op 3 (.alt 4 (.op 4 (.op 5 (.op 6 (.op 7 (.alt 9 (.op 9 (.op 10 (.nil))) (.stop)))))) (.stop))) (.stop))) (.stop))) (.stop))) (.stop)))) (by kernel_rfl) (by kernel_rfl) (by kernel_rfl) ?_
    refine .p rfl rfl rfl rfl (fun wx hx => .loadA (n := 3) rfl rfl rfl rfl rfl (B1.ext hx (by show ¬ (w1.heap.size ≤ w8.heap.size); omega)).cells) ?_
    refine .alt ?_ ?_
    · refine .call (first := []) (captured := []) rfl rfl rfl rfl rfl rfl (text_fn (n := 130) (by decide)) (by rintro _ _ ⟨_, hx⟩; exact (Ext.refl _).trans (hx.mono (fun _ _ h => h.elim))) ?_
      rintro _ w13 ⟨rfl, X13⟩
      have z13 := X13.size
      rw [← hT130]
      have hX13 : Ext (fun k => w1.heap.size ≤ k) _ _ := (Ext.refl _).trans (X13.mono (fun _ _ h => h.elim))
      refine .alt ?_ ?_
      · refine .call (first := []) (captured := []) rfl rfl rfl rfl rfl rfl (lawPut_fn) (by rintro _ _ ⟨_, hx⟩; exact hX13.trans (hx.mono (fun _ _ h => h.elim))) ?_
        rintro _ w14 ⟨rfl, X14⟩
        have z14 := X14.size
        have hX14 : Ext (fun k => w1.heap.size ≤ k) _ _ := hX13.trans (X14.mono (fun _ _ h => h.elim))
        refine .alt ?_ ?_
        · refine .v rfl rfl rfl rfl (.lits rfl rfl (fun _ => by kernel_rfl)) (by rintro _ _ ⟨_, hN⟩; exact hX14.trans hN.ext0) ?_
          rintro _ w15 ⟨rfl, N15⟩
          have R15 : (Sl tree.tChange).rep All w15 (.slice _ 1 1) [⟨[97], T130, false⟩] := Sl.mk (us := [_]) (.cons (tree.tChange.mk (x := ⟨[97], T130, false⟩) (show (1 : Nat) < Lim by decide) (by rw [hTl]; decide)) .nil) (by have := N15.blk.cells; exact this) trivial N15.blk.lt (by simp) (by simp [Lim]) rfl
          have X15 := N15.ext
          have z15 := N15.size
          have hX15 : Ext (fun k => w1.heap.size ≤ k) _ _ := hX14.trans (N15.ext0)
          refine .alt ?_ ?_
          · refine .call (first := []) (captured := []) rfl rfl rfl rfl rfl rfl (turned_fn (d := F100) (l := [⟨[97], T130, false⟩]) (disk.tDisk.ext (disk.tDisk.ext0 (disk.tDisk.mono R8 (P' := fun k => k < w8.heap.size) (fun k _ hl => hl)) Y1) hX15 (by intro k hk _ he; have he : w1.heap.size ≤ k := he; have hk : k < w8.heap.size := hk; omega)) (by first | exact R15 | exact (Sl tree.tChange).ext0 R15 N3.ext) (hg1.ext hX15 (fun he => by have he : w1.heap.size ≤ _ := he; have := hg1.lt; omega))) (by rintro _ _ ⟨_, _, _, hx⟩; exact hX15.trans (hx.mono (fun _ _ h => h.elim))) ?_
            rintro _ w16 ⟨v16, rfl, R16, X16⟩
            have z16 := X16.size
            rw [hx1] at R16 ⊢
            obtain ⟨a3, k3, a4, k4, rfl⟩ := diskShape R16
            have hX16 : Ext (fun k => w1.heap.size ≤ k) _ _ := hX15.trans (X16.mono (fun _ _ h => h.elim))
            refine .p rfl rfl rfl rfl (fun wx hx => .mv rfl) ?_
            refine .p rfl rfl rfl rfl (fun wx hx => .extract rfl rfl) ?_
            refine .p rfl rfl rfl rfl (fun wx hx => .extract rfl rfl) ?_
            refine .alt ?_ ?_
            · refine .v rfl rfl rfl rfl (.alloc rfl rfl) (by rintro _ _ ⟨_, hN⟩; exact hX16.trans hN.ext0) ?_
              rintro _ w3 ⟨rfl, N3⟩
              have X3 := N3.ext
              have z3 := N3.size
              have hX3 : Ext (fun k => w1.heap.size ≤ k) _ _ := hX16.trans (N3.ext0)
              refine .alt ?_ ?_
              · refine .s rfl rfl rfl (.storeAll (n := 3) (E := 44) (cs := [i64 0, .slice none 0 0, .slice none 0 0]) rfl rfl rfl rfl rfl (by first | exact N3.blk | exact N3.blk.ext (S := fun _ => False) (by repeat (first | exact Ext.refl _ | assumption | refine Ext.trans (by assumption) ?_)) (fun x => x)) rfl) (by intro wz hP; exact hX3.trans (hP.ext.mono (by rintro k _ rfl; show w1.heap.size ≤ _; omega))) ?_
                intro ws P3
                have hXs9 : Ext (fun k => w1.heap.size ≤ k) _ _ := hX3.trans (P3.ext.mono (by rintro k _ rfl; show w1.heap.size ≤ _; omega))
                refine .p rfl rfl rfl rfl (fun wx hx => .as rfl) ?_
                refine .nil ?_
                have zs := P3.size
                exact (meet (w16.heap.size, (a3, k3, a4, k4), ws) ⟨P3.blk, allOf (disk.tDisk.ext (disk.tDisk.ext0 (disk.tDisk.mono R16 (P' := fun k => (k < w16.heap.size ∧ True) ∨ False) (fun k _ hl => .inl ⟨hl, trivial⟩)) N3.ext) P3.ext (fun k hk _ he => by have he : k = w16.heap.size := he; rcases hk with ⟨hk, _⟩ | hk <;> first | omega | exact hk.elim)), (Ext.refl w1).then hXs9 (fun k hk _ => hk)⟩).of ⟨rfl, rfl, rfl, trivial⟩
              exact .stop
            exact .stop
          refine .alt ?_ ?_
          · refine .v rfl rfl rfl rfl (.alloc rfl rfl) (by rintro _ _ ⟨_, hN⟩; exact hX15.trans hN.ext0) ?_
            rintro _ w3 ⟨rfl, N3⟩
            have X3 := N3.ext
            have z3 := N3.size
            have hX3 : Ext (fun k => w1.heap.size ≤ k) _ _ := hX15.trans (N3.ext0)
            refine .alt ?_ ?_
            · refine .call (first := []) (captured := []) rfl rfl rfl rfl rfl rfl (turned_fn (d := F100) (l := [⟨[97], T130, false⟩]) (disk.tDisk.ext (disk.tDisk.ext0 (disk.tDisk.mono R8 (P' := fun k => k < w8.heap.size) (fun k _ hl => hl)) Y1) hX3 (by intro k hk _ he; have he : w1.heap.size ≤ k := he; have hk : k < w8.heap.size := hk; omega)) (by first | exact R15 | exact (Sl tree.tChange).ext0 R15 N3.ext) (hg1.ext hX3 (fun he => by have he : w1.heap.size ≤ _ := he; have := hg1.lt; omega))) (by rintro _ _ ⟨_, _, _, hx⟩; exact hX3.trans (hx.mono (fun _ _ h => h.elim))) ?_
              rintro _ w16 ⟨v16, rfl, R16, X16⟩
              have z16 := X16.size
              rw [hx1] at R16 ⊢
              obtain ⟨a3, k3, a4, k4, rfl⟩ := diskShape R16
              have hX16 : Ext (fun k => w1.heap.size ≤ k) _ _ := hX3.trans (X16.mono (fun _ _ h => h.elim))
              refine .p rfl rfl rfl rfl (fun wx hx => .mv rfl) ?_
              refine .p rfl rfl rfl rfl (fun wx hx => .extract rfl rfl) ?_
              refine .p rfl rfl rfl rfl (fun wx hx => .extract rfl rfl) ?_
              refine .alt ?_ ?_
              · refine .s rfl rfl rfl (.storeAll (n := 3) (E := 44) (cs := [i64 0, .slice none 0 0, .slice none 0 0]) rfl rfl rfl rfl rfl (by first | exact N3.blk | exact N3.blk.ext (S := fun _ => False) (by repeat (first | exact Ext.refl _ | assumption | refine Ext.trans (by assumption) ?_)) (fun x => x)) rfl) (by intro wz hP; exact hX16.trans (hP.ext.mono (by rintro k _ rfl; show w1.heap.size ≤ _; omega))) ?_
                intro ws P3
                have hXs9 : Ext (fun k => w1.heap.size ≤ k) _ _ := hX16.trans (P3.ext.mono (by rintro k _ rfl; show w1.heap.size ≤ _; omega))
                refine .p rfl rfl rfl rfl (fun wx hx => .as rfl) ?_
                refine .nil ?_
                have zs := P3.size
                exact (meet (w15.heap.size, (a3, k3, a4, k4), ws) ⟨P3.blk, allOf (disk.tDisk.ext (R16) P3.ext (fun k hk _ he => by have he : k = w15.heap.size := he; rcases hk with ⟨hk, _⟩ | hk <;> first | omega | exact hk.elim)), (Ext.refl w1).then hXs9 (fun k hk _ => hk)⟩).of ⟨rfl, rfl, rfl, trivial⟩
              exact .stop
            exact .stop
          exact .stop
        refine .alt ?_ ?_
        · refine .v rfl rfl rfl rfl (.alloc rfl rfl) (by rintro _ _ ⟨_, hN⟩; exact hX14.trans hN.ext0) ?_
          rintro _ w3 ⟨rfl, N3⟩
          have X3 := N3.ext
          have z3 := N3.size
          have hX3 : Ext (fun k => w1.heap.size ≤ k) _ _ := hX14.trans (N3.ext0)
          refine .alt ?_ ?_
          · refine .v rfl rfl rfl rfl (.lits rfl rfl (fun _ => by kernel_rfl)) (by rintro _ _ ⟨_, hN⟩; exact hX3.trans hN.ext0) ?_
            rintro _ w15 ⟨rfl, N15⟩
            have R15 : (Sl tree.tChange).rep All w15 (.slice _ 1 1) [⟨[97], T130, false⟩] := Sl.mk (us := [_]) (.cons (tree.tChange.mk (x := ⟨[97], T130, false⟩) (show (1 : Nat) < Lim by decide) (by rw [hTl]; decide)) .nil) (by have := N15.blk.cells; exact this) trivial N15.blk.lt (by simp) (by simp [Lim]) rfl
            have X15 := N15.ext
            have z15 := N15.size
            have hX15 : Ext (fun k => w1.heap.size ≤ k) _ _ := hX3.trans (N15.ext0)
            refine .alt ?_ ?_
            · refine .call (first := []) (captured := []) rfl rfl rfl rfl rfl rfl (turned_fn (d := F100) (l := [⟨[97], T130, false⟩]) (disk.tDisk.ext (disk.tDisk.ext0 (disk.tDisk.mono R8 (P' := fun k => k < w8.heap.size) (fun k _ hl => hl)) Y1) hX15 (by intro k hk _ he; have he : w1.heap.size ≤ k := he; have hk : k < w8.heap.size := hk; omega)) (by first | exact R15 | exact (Sl tree.tChange).ext0 R15 N3.ext) (hg1.ext hX15 (fun he => by have he : w1.heap.size ≤ _ := he; have := hg1.lt; omega))) (by rintro _ _ ⟨_, _, _, hx⟩; exact hX15.trans (hx.mono (fun _ _ h => h.elim))) ?_
              rintro _ w16 ⟨v16, rfl, R16, X16⟩
              have z16 := X16.size
              rw [hx1] at R16 ⊢
              obtain ⟨a3, k3, a4, k4, rfl⟩ := diskShape R16
              have hX16 : Ext (fun k => w1.heap.size ≤ k) _ _ := hX15.trans (X16.mono (fun _ _ h => h.elim))
              refine .p rfl rfl rfl rfl (fun wx hx => .mv rfl) ?_
              refine .p rfl rfl rfl rfl (fun wx hx => .extract rfl rfl) ?_
              refine .p rfl rfl rfl rfl (fun wx hx => .extract rfl rfl) ?_
              refine .alt ?_ ?_
              · refine .s rfl rfl rfl (.storeAll (n := 3) (E := 44) (cs := [i64 0, .slice none 0 0, .slice none 0 0]) rfl rfl rfl rfl rfl (by first | exact N3.blk | exact N3.blk.ext (S := fun _ => False) (by repeat (first | exact Ext.refl _ | assumption | refine Ext.trans (by assumption) ?_)) (fun x => x)) rfl) (by intro wz hP; exact hX16.trans (hP.ext.mono (by rintro k _ rfl; show w1.heap.size ≤ _; omega))) ?_
                intro ws P3
                have hXs9 : Ext (fun k => w1.heap.size ≤ k) _ _ := hX16.trans (P3.ext.mono (by rintro k _ rfl; show w1.heap.size ≤ _; omega))
                refine .p rfl rfl rfl rfl (fun wx hx => .as rfl) ?_
                refine .nil ?_
                have zs := P3.size
                exact (meet (w14.heap.size, (a3, k3, a4, k4), ws) ⟨P3.blk, allOf (disk.tDisk.ext (R16) P3.ext (fun k hk _ he => by have he : k = w14.heap.size := he; rcases hk with ⟨hk, _⟩ | hk <;> first | omega | exact hk.elim)), (Ext.refl w1).then hXs9 (fun k hk _ => hk)⟩).of ⟨rfl, rfl, rfl, trivial⟩
              exact .stop
            exact .stop
          exact .stop
        exact .stop
      refine .alt ?_ ?_
      · refine .v rfl rfl rfl rfl (.alloc rfl rfl) (by rintro _ _ ⟨_, hN⟩; exact hX13.trans hN.ext0) ?_
        rintro _ w3 ⟨rfl, N3⟩
        have X3 := N3.ext
        have z3 := N3.size
        have hX3 : Ext (fun k => w1.heap.size ≤ k) _ _ := hX13.trans (N3.ext0)
        refine .alt ?_ ?_
        · refine .call (first := []) (captured := []) rfl rfl rfl rfl rfl rfl (lawPut_fn) (by rintro _ _ ⟨_, hx⟩; exact hX3.trans (hx.mono (fun _ _ h => h.elim))) ?_
          rintro _ w14 ⟨rfl, X14⟩
          have z14 := X14.size
          have hX14 : Ext (fun k => w1.heap.size ≤ k) _ _ := hX3.trans (X14.mono (fun _ _ h => h.elim))
          refine .alt ?_ ?_
          · refine .v rfl rfl rfl rfl (.lits rfl rfl (fun _ => by kernel_rfl)) (by rintro _ _ ⟨_, hN⟩; exact hX14.trans hN.ext0) ?_
            rintro _ w15 ⟨rfl, N15⟩
            have R15 : (Sl tree.tChange).rep All w15 (.slice _ 1 1) [⟨[97], T130, false⟩] := Sl.mk (us := [_]) (.cons (tree.tChange.mk (x := ⟨[97], T130, false⟩) (show (1 : Nat) < Lim by decide) (by rw [hTl]; decide)) .nil) (by have := N15.blk.cells; exact this) trivial N15.blk.lt (by simp) (by simp [Lim]) rfl
            have X15 := N15.ext
            have z15 := N15.size
            have hX15 : Ext (fun k => w1.heap.size ≤ k) _ _ := hX14.trans (N15.ext0)
            refine .alt ?_ ?_
            · refine .call (first := []) (captured := []) rfl rfl rfl rfl rfl rfl (turned_fn (d := F100) (l := [⟨[97], T130, false⟩]) (disk.tDisk.ext (disk.tDisk.ext0 (disk.tDisk.mono R8 (P' := fun k => k < w8.heap.size) (fun k _ hl => hl)) Y1) hX15 (by intro k hk _ he; have he : w1.heap.size ≤ k := he; have hk : k < w8.heap.size := hk; omega)) (by first | exact R15 | exact (Sl tree.tChange).ext0 R15 N3.ext) (hg1.ext hX15 (fun he => by have he : w1.heap.size ≤ _ := he; have := hg1.lt; omega))) (by rintro _ _ ⟨_, _, _, hx⟩; exact hX15.trans (hx.mono (fun _ _ h => h.elim))) ?_
              rintro _ w16 ⟨v16, rfl, R16, X16⟩
              have z16 := X16.size
              rw [hx1] at R16 ⊢
              obtain ⟨a3, k3, a4, k4, rfl⟩ := diskShape R16
              have hX16 : Ext (fun k => w1.heap.size ≤ k) _ _ := hX15.trans (X16.mono (fun _ _ h => h.elim))
              refine .p rfl rfl rfl rfl (fun wx hx => .mv rfl) ?_
              refine .p rfl rfl rfl rfl (fun wx hx => .extract rfl rfl) ?_
              refine .p rfl rfl rfl rfl (fun wx hx => .extract rfl rfl) ?_
              refine .alt ?_ ?_
              · refine .s rfl rfl rfl (.storeAll (n := 3) (E := 44) (cs := [i64 0, .slice none 0 0, .slice none 0 0]) rfl rfl rfl rfl rfl (by first | exact N3.blk | exact N3.blk.ext (S := fun _ => False) (by repeat (first | exact Ext.refl _ | assumption | refine Ext.trans (by assumption) ?_)) (fun x => x)) rfl) (by intro wz hP; exact hX16.trans (hP.ext.mono (by rintro k _ rfl; show w1.heap.size ≤ _; omega))) ?_
                intro ws P3
                have hXs9 : Ext (fun k => w1.heap.size ≤ k) _ _ := hX16.trans (P3.ext.mono (by rintro k _ rfl; show w1.heap.size ≤ _; omega))
                refine .p rfl rfl rfl rfl (fun wx hx => .as rfl) ?_
                refine .nil ?_
                have zs := P3.size
                exact (meet (w13.heap.size, (a3, k3, a4, k4), ws) ⟨P3.blk, allOf (disk.tDisk.ext (R16) P3.ext (fun k hk _ he => by have he : k = w13.heap.size := he; rcases hk with ⟨hk, _⟩ | hk <;> first | omega | exact hk.elim)), (Ext.refl w1).then hXs9 (fun k hk _ => hk)⟩).of ⟨rfl, rfl, rfl, trivial⟩
              exact .stop
            exact .stop
          exact .stop
        exact .stop
      exact .stop
    refine .alt ?_ ?_
    · refine .v rfl rfl rfl rfl (.alloc rfl rfl) (by rintro _ _ ⟨_, hN⟩; exact (Ext.refl _).trans hN.ext0) ?_
      rintro _ w3 ⟨rfl, N3⟩
      have X3 := N3.ext
      have z3 := N3.size
      have hX3 : Ext (fun k => w1.heap.size ≤ k) _ _ := (Ext.refl _).trans (N3.ext0)
      refine .alt ?_ ?_
      · refine .call (first := []) (captured := []) rfl rfl rfl rfl rfl rfl (text_fn (n := 130) (by decide)) (by rintro _ _ ⟨_, hx⟩; exact hX3.trans (hx.mono (fun _ _ h => h.elim))) ?_
        rintro _ w13 ⟨rfl, X13⟩
        have z13 := X13.size
        rw [← hT130]
        have hX13 : Ext (fun k => w1.heap.size ≤ k) _ _ := hX3.trans (X13.mono (fun _ _ h => h.elim))
        refine .alt ?_ ?_
        · refine .call (first := []) (captured := []) rfl rfl rfl rfl rfl rfl (lawPut_fn) (by rintro _ _ ⟨_, hx⟩; exact hX13.trans (hx.mono (fun _ _ h => h.elim))) ?_
          rintro _ w14 ⟨rfl, X14⟩
          have z14 := X14.size
          have hX14 : Ext (fun k => w1.heap.size ≤ k) _ _ := hX13.trans (X14.mono (fun _ _ h => h.elim))
          refine .alt ?_ ?_
          · refine .v rfl rfl rfl rfl (.lits rfl rfl (fun _ => by kernel_rfl)) (by rintro _ _ ⟨_, hN⟩; exact hX14.trans hN.ext0) ?_
            rintro _ w15 ⟨rfl, N15⟩
            have R15 : (Sl tree.tChange).rep All w15 (.slice _ 1 1) [⟨[97], T130, false⟩] := Sl.mk (us := [_]) (.cons (tree.tChange.mk (x := ⟨[97], T130, false⟩) (show (1 : Nat) < Lim by decide) (by rw [hTl]; decide)) .nil) (by have := N15.blk.cells; exact this) trivial N15.blk.lt (by simp) (by simp [Lim]) rfl
            have X15 := N15.ext
            have z15 := N15.size
            have hX15 : Ext (fun k => w1.heap.size ≤ k) _ _ := hX14.trans (N15.ext0)
            refine .alt ?_ ?_
            · refine .call (first := []) (captured := []) rfl rfl rfl rfl rfl rfl (turned_fn (d := F100) (l := [⟨[97], T130, false⟩]) (disk.tDisk.ext (disk.tDisk.ext0 (disk.tDisk.mono R8 (P' := fun k => k < w8.heap.size) (fun k _ hl => hl)) Y1) hX15 (by intro k hk _ he; have he : w1.heap.size ≤ k := he; have hk : k < w8.heap.size := hk; omega)) (by first | exact R15 | exact (Sl tree.tChange).ext0 R15 N3.ext) (hg1.ext hX15 (fun he => by have he : w1.heap.size ≤ _ := he; have := hg1.lt; omega))) (by rintro _ _ ⟨_, _, _, hx⟩; exact hX15.trans (hx.mono (fun _ _ h => h.elim))) ?_
              rintro _ w16 ⟨v16, rfl, R16, X16⟩
              have z16 := X16.size
              rw [hx1] at R16 ⊢
              obtain ⟨a3, k3, a4, k4, rfl⟩ := diskShape R16
              have hX16 : Ext (fun k => w1.heap.size ≤ k) _ _ := hX15.trans (X16.mono (fun _ _ h => h.elim))
              refine .p rfl rfl rfl rfl (fun wx hx => .mv rfl) ?_
              refine .p rfl rfl rfl rfl (fun wx hx => .extract rfl rfl) ?_
              refine .p rfl rfl rfl rfl (fun wx hx => .extract rfl rfl) ?_
              refine .alt ?_ ?_
              · refine .s rfl rfl rfl (.storeAll (n := 3) (E := 44) (cs := [i64 0, .slice none 0 0, .slice none 0 0]) rfl rfl rfl rfl rfl (by first | exact N3.blk | exact N3.blk.ext (S := fun _ => False) (by repeat (first | exact Ext.refl _ | assumption | refine Ext.trans (by assumption) ?_)) (fun x => x)) rfl) (by intro wz hP; exact hX16.trans (hP.ext.mono (by rintro k _ rfl; show w1.heap.size ≤ _; omega))) ?_
                intro ws P3
                have hXs9 : Ext (fun k => w1.heap.size ≤ k) _ _ := hX16.trans (P3.ext.mono (by rintro k _ rfl; show w1.heap.size ≤ _; omega))
                refine .p rfl rfl rfl rfl (fun wx hx => .as rfl) ?_
                refine .nil ?_
                have zs := P3.size
                exact (meet (w1.heap.size, (a3, k3, a4, k4), ws) ⟨P3.blk, allOf (disk.tDisk.ext (R16) P3.ext (fun k hk _ he => by have he : k = w1.heap.size := he; rcases hk with ⟨hk, _⟩ | hk <;> first | omega | exact hk.elim)), (Ext.refl w1).then hXs9 (fun k hk _ => hk)⟩).of ⟨rfl, rfl, rfl, trivial⟩
              exact .stop
            exact .stop
          exact .stop
        exact .stop
      exact .stop
    exact .stop
end Go.Proofs.YtpfehnopghffjaaGreatDoor
namespace Go.Proofs.YtpfehnopghffjaaGreatDoor
open Go
open room files
attribute [local irreducible] readD writeF
theorem FilesBack_fn {w : World} {v v1 : Value} {x : Dir} {b : Bs} (h : tDir.rep All w v x) (hb : tBytes.rep All w v1 b) (hp : (allP x.fs).length ≤ 1000000) (hg : GOK w) : Fn Tryz.prog 6 [v, v1] w (fun r w2 => r = .bool true ∧ Ext (fun _ => False) w w2) := by
  have h0 := h
  obtain ⟨a0, k0, rfl, hf0, _⟩ := tDir.val h
  obtain ⟨a1, k1, rfl, _⟩ := Sl.val hb
  refine Fn.enter (fun w => Tryz.call6 _ w) Tryz.func6 rfl ?_
  refine .seq (.region ?_)
  refine .v rfl rfl (.box rfl) ?_
  rintro _ w2 ⟨rfl, N2⟩
  have B2 := N2.blk
  have X2 := N2.ext
  have z2 := N2.size
  refine .p rfl rfl (.as rfl) ?_
  refine .nil (.code (.seq (.keep [(2, _), (1, _)] ⟨rfl, rfl, trivial⟩ (.region ?_))))
  refine .call (first := []) (captured := []) rfl rfl rfl rfl (filesAlive_fn (hg.ext0 (by repeat (first | exact Ext.refl _ | assumption | refine Ext.trans (by assumption) ?_)))) ?_
  rintro _ w16 ⟨rfl, X16⟩
  have z16 := X16.size
  refine .p rfl rfl (.as rfl) ?_
  refine .nil (.code (.seq (.seq (.keep [(5, _), (2, _), (1, _)] ⟨rfl, rfl, rfl, trivial⟩ (.region ?_)))))
  refine .p rfl rfl (.mv rfl) ?_
  refine .p rfl rfl (.not rfl) ?_
  refine .nil (.code (.keep [(18, _), (5, _), (2, _), (1, _)] ⟨rfl, rfl, rfl, rfl, trivial⟩ (.condF rfl (.skip (.code (.seq (.seq (.keep [(5, _), (2, _), (1, _)] ⟨rfl, rfl, rfl, trivial⟩ (.region ?_)))))))))
  refine .p rfl rfl (.fieldAddr rfl rfl rfl rfl) ?_
  refine .p rfl rfl (.load rfl rfl rfl ((B2.ext (S := fun _ => False) (by repeat (first | exact Ext.refl _ | assumption | refine Ext.trans (by assumption) ?_)) (fun x => x)).cell 1)) ?_
  refine .p rfl rfl (.len rfl rfl) ?_
  refine .p rfl rfl (.gt rfl rfl) ?_
  refine .p rfl rfl (.mv rfl) ?_
  refine .caseD 23 rfl (fun c23 => ?_) (fun c23 => ?_)
  · refine .skip rfl rfl ?_
    refine .skip rfl rfl ?_
    refine .skip rfl rfl ?_
    refine .p rfl rfl (.pickT rfl rfl) ?_
    refine .nil (.code (.keep [(27, _), (5, _), (2, _), (1, _)] ⟨rfl, rfl, rfl, rfl, trivial⟩ (.condT rfl (.seq (.keep [(5, _)] ⟨rfl, trivial⟩ (.region ?_))))))
    refine .p rfl rfl (.mv rfl) ?_
    refine .p rfl rfl (.as rfl) ?_
    refine .nil (.code ?_)
    refine .ret _ rfl ?_
    exact ⟨rfl, (by repeat (first | exact Ext.refl _ | assumption | refine Ext.trans (by assumption) ?_))⟩
  · refine .p rfl rfl (.mv rfl) ?_
    refine .p rfl rfl (.len rfl rfl) ?_
    refine .p rfl rfl (.gt rfl rfl) ?_
    refine .p rfl rfl (.pickF rfl rfl) ?_
    refine .nil (.code (.keep [(27, _), (5, _), (2, _), (1, _)] ⟨rfl, rfl, rfl, rfl, trivial⟩ ?_))
    refine .condD rfl (fun c27 => ?_) (fun c27 => ?_)
    · refine .seq (.keep [(5, _)] ⟨rfl, trivial⟩ (.region ?_))
      refine .p rfl rfl (.mv rfl) ?_
      refine .p rfl rfl (.as rfl) ?_
      refine .nil (.code ?_)
      refine .ret _ rfl ?_
      exact ⟨rfl, (by repeat (first | exact Ext.refl _ | assumption | refine Ext.trans (by assumption) ?_))⟩
    · refine .skip (.code (.seq (.keep [(5, _), (2, _), (1, _)] ⟨rfl, rfl, rfl, trivial⟩ (.region ?_))))
      refine .p rfl rfl (.loadA (n := 2) rfl rfl rfl rfl rfl (B2.ext (S := fun _ => False) (by repeat (first | exact Ext.refl _ | assumption | refine Ext.trans (by assumption) ?_)) (fun x => x)).cells) ?_
      refine .call (first := []) (captured := []) rfl rfl rfl rfl (FWrite_fn (x := x) (tDir.ext0 h0 (by repeat (first | exact Ext.refl _ | assumption | refine Ext.trans (by assumption) ?_))) hp (hg.ext0 (by repeat (first | exact Ext.refl _ | assumption | refine Ext.trans (by assumption) ?_)))) ?_
      rintro _ w31 ⟨v31, rfl, G31, X31⟩
      have z31 := X31.size
      obtain ⟨a31, k31, rfl, _⟩ := OwnO.val G31
      refine .p rfl rfl (.mv rfl) ?_
      refine .p rfl rfl (.extract rfl rfl) ?_
      refine .p rfl rfl (.extract rfl rfl) ?_
      refine .p rfl rfl (.as rfl) ?_
      refine .p rfl rfl (.as rfl) ?_
      refine .nil (.code (.seq (.seq (.keep [(7, _), (6, _), (5, _), (2, _), (1, _)] ⟨rfl, rfl, rfl, rfl, rfl, trivial⟩ (.region ?_)))))
      refine .p rfl rfl (.mv rfl) ?_
      refine .p rfl rfl (.eq rfl rfl) ?_
      refine .nil (.code (.keep [(35, _), (6, _), (5, _), (2, _), (1, _)] ⟨rfl, rfl, rfl, rfl, rfl, trivial⟩ ?_))
      refine .meet (S := World) (fun s => [(1, .slice a1 b.length k1), (5, .bool true)]) (fun s => s) (fun s => Ext (fun _ => False) w31 s) ?_ ?_
      · rintro wm Xm
        have zm := Xm.size
        refine .code (.seq (.region ?_))
        refine .p rfl rfl (.mv rfl) ?_
        refine .call (first := []) (captured := []) rfl rfl rfl rfl (ReadR_fn (b := b) (tBytes.ext0 hb (by repeat (first | exact Ext.refl _ | assumption | refine Ext.trans (by assumption) ?_))) (hg.ext0 (by repeat (first | exact Ext.refl _ | assumption | refine Ext.trans (by assumption) ?_)))) ?_
        rintro _ w82 ⟨u82, rfl, R82, X82⟩
        have z82 := X82.size
        obtain ⟨a82, k82, rfl, hf82, _⟩ := tDir.val R82
        refine .p rfl rfl (.mv rfl) ?_
        refine .p rfl rfl (.extract rfl rfl) ?_
        refine .p rfl rfl (.extract rfl rfl) ?_
        refine .v rfl rfl (.alloc rfl rfl) ?_
        rintro _ wn12 ⟨rfl, N12⟩
        refine .s rfl (.storeAll (n := 2) rfl rfl rfl rfl rfl N12.blk rfl) ?_
        intro w12 P12
        have Y12 := N12.ext.then P12.ext (by rintro k rfl _; exact Nat.le_refl _)
        have zy12 := Y12.size
        have B12 := P12.blk
        clear P12 N12
        refine .p rfl rfl (.as rfl) ?_
        refine .nil (.code (.seq (.seq (.keep [(13, _), (12, _), (1, _), (5, _)] ⟨rfl, rfl, rfl, rfl, trivial⟩ (.region ?_)))))
        refine .p rfl rfl (.mv rfl) ?_
        refine .p rfl rfl (.ne rfl rfl) ?_
        refine .nil (.code (.keep [(86, _), (13, _), (12, _), (1, _), (5, _)] ⟨rfl, rfl, rfl, rfl, rfl, trivial⟩ ?_))
        refine .condD rfl (fun c86 => ?_) (fun c86 => ?_)
        · refine .seq (.keep [(13, _), (5, _)] ⟨rfl, rfl, trivial⟩ (.region ?_))
          refine .p rfl rfl (.mv rfl) ?_
          refine .p rfl rfl (.mv rfl) ?_
          refine .p rfl rfl (.mv rfl) ?_
          refine .p rfl rfl (.yes (.eq rfl rfl) (by rw [read_bad c86])) ?_
          refine .p rfl rfl (.pickT rfl rfl) ?_
          refine .p rfl rfl (.as rfl) ?_
          refine .nil (.code ?_)
          refine .ret _ rfl ?_
          exact ⟨rfl, (by repeat (first | exact Ext.refl _ | assumption | refine Ext.trans (by assumption) ?_))⟩
        · have hwr := write_read (Decidable.not_not.1 c86)
          have hp2 : (allP (readD b).1.fs).length ≤ 1000000 := by have := (check_ok (checkD_ok (writeF_ok hwr).1).2.2.1).2.2.1; omega
          refine .skip (.code (.seq (.keep [(12, _), (1, _), (5, _)] ⟨rfl, rfl, rfl, trivial⟩ (.region ?_))))
          refine .p rfl rfl (.loadA (n := 2) rfl rfl rfl rfl rfl (B12.ext (S := fun _ => False) (by repeat (first | exact Ext.refl _ | assumption | refine Ext.trans (by assumption) ?_)) (fun x => x)).cells) ?_
          refine .call (first := []) (captured := []) rfl rfl rfl rfl (FWrite_fn (x := (readD b).1) (tDir.ext0 (allOf R82) (by repeat (first | exact Ext.refl _ | assumption | refine Ext.trans (by assumption) ?_))) hp2 (hg.ext0 (by repeat (first | exact Ext.refl _ | assumption | refine Ext.trans (by assumption) ?_)))) ?_
          rintro _ w94 ⟨v94, rfl, G94, X94⟩
          have z94 := X94.size
          rw [hwr] at G94 ⊢
          obtain ⟨a94, k94, rfl, _⟩ := OwnO.val G94
          refine .p rfl rfl (.mv rfl) ?_
          refine .p rfl rfl (.extract rfl rfl) ?_
          refine .p rfl rfl (.extract rfl rfl) ?_
          refine .p rfl rfl (.as rfl) ?_
          refine .p rfl rfl (.as rfl) ?_
          refine .nil (.code (.seq (.keep [(15, _), (14, _), (1, _), (5, _)] ⟨rfl, rfl, rfl, rfl, trivial⟩ (.region ?_))))
          refine .p rfl rfl (.mv rfl) ?_
          refine .p rfl rfl (.mv rfl) ?_
          refine .p rfl rfl (.mv rfl) ?_
          refine .p rfl rfl (.yes (.eq rfl rfl) (rfl)) ?_
          refine .p rfl rfl (.pickT rfl rfl) ?_
          refine .p rfl rfl (.mv rfl) ?_
          refine .p rfl rfl (.mv rfl) ?_
          refine .p rfl rfl (.bytesStr rfl (Gr.rep (Gr.ext0 G94 (by repeat (first | exact Ext.refl _ | assumption | refine Ext.trans (by assumption) ?_)))) rfl rfl rfl) ?_
          refine .p rfl rfl (.mv rfl) ?_
          refine .p rfl rfl (.bytesStr rfl (tBytes.ext0 hb (by repeat (first | exact Ext.refl _ | assumption | refine Ext.trans (by assumption) ?_))) rfl rfl rfl) ?_
          refine .p rfl rfl (.yes (.eqS rfl rfl) (rfl)) ?_
          refine .p rfl rfl (.pickT rfl rfl) ?_
          refine .p rfl rfl (.as rfl) ?_
          refine .nil (.code ?_)
          refine .ret _ rfl ?_
          exact ⟨rfl, (by repeat (first | exact Ext.refl _ | assumption | refine Ext.trans (by assumption) ?_))⟩
      · intro meet
        refine .condD rfl (fun c35 => ?_) (fun c35 => ?_)
        · have hwx : writeF x = ((writeF x).1, 0) := Prod.ext rfl c35
          have hrd := read_write hwx
          have hlen := writeF_len hwx
          refine .seq (.keep [(6, _), (5, _), (2, _), (1, _)] ⟨rfl, rfl, rfl, rfl, trivial⟩ (.region ?_))
          refine .p rfl rfl (.mv rfl) ?_
          refine .call (first := []) (captured := []) rfl rfl rfl rfl (ReadR_fn (Gr.rep (Gr.ext0 G31 (by repeat (first | exact Ext.refl _ | assumption | refine Ext.trans (by assumption) ?_)))) (hg.ext0 (by repeat (first | exact Ext.refl _ | assumption | refine Ext.trans (by assumption) ?_)))) ?_
          rintro _ w38 ⟨u38, rfl, R38, X38⟩
          have z38 := X38.size
          rw [hrd] at R38 ⊢
          obtain ⟨a38, k38, rfl, hf38, _⟩ := tDir.val R38
          refine .p rfl rfl (.mv rfl) ?_
          refine .p rfl rfl (.extract rfl rfl) ?_
          refine .p rfl rfl (.extract rfl rfl) ?_
          refine .v rfl rfl (.alloc rfl rfl) ?_
          rintro _ wn8 ⟨rfl, N8⟩
          refine .s rfl (.storeAll (n := 2) rfl rfl rfl rfl rfl N8.blk rfl) ?_
          intro w8 P8
          have Y8 := N8.ext.then P8.ext (by rintro k rfl _; exact Nat.le_refl _)
          have zy8 := Y8.size
          have B8 := P8.blk
          clear P8 N8
          refine .p rfl rfl (.as rfl) ?_
          refine .nil (.code (.seq (.keep [(9, _), (8, _), (6, _), (5, _), (2, _), (1, _)] ⟨rfl, rfl, rfl, rfl, rfl, rfl, trivial⟩ (.region ?_))))
          refine .p rfl rfl (.loadA (n := 2) rfl rfl rfl rfl rfl (B8.ext (S := fun _ => False) (by repeat (first | exact Ext.refl _ | assumption | refine Ext.trans (by assumption) ?_)) (fun x => x)).cells) ?_
          refine .call (first := []) (captured := []) rfl rfl rfl rfl (FWrite_fn (x := x) (tDir.ext0 (allOf R38) (by repeat (first | exact Ext.refl _ | assumption | refine Ext.trans (by assumption) ?_))) hp (hg.ext0 (by repeat (first | exact Ext.refl _ | assumption | refine Ext.trans (by assumption) ?_)))) ?_
          rintro _ w43 ⟨v43, rfl, G43, X43⟩
          have z43 := X43.size
          obtain ⟨a43, k43, rfl, _⟩ := OwnO.val G43
          refine .p rfl rfl (.mv rfl) ?_
          refine .p rfl rfl (.extract rfl rfl) ?_
          refine .p rfl rfl (.extract rfl rfl) ?_
          refine .p rfl rfl (.as rfl) ?_
          refine .p rfl rfl (.as rfl) ?_
          refine .nil (.code (.seq (.keep [(11, _), (10, _), (9, _), (8, _), (6, _), (5, _), (2, _), (1, _)] ⟨rfl, rfl, rfl, rfl, rfl, rfl, rfl, rfl, trivial⟩ (.region ?_))))
          refine .p rfl rfl (.mv rfl) ?_
          refine .p rfl rfl (.len rfl rfl) ?_
          refine .p rfl rfl (.no (.ne rfl rfl) (fun h => h (by omega))) ?_
          refine .p rfl rfl (.mv rfl) ?_
          refine .p rfl rfl (.mv rfl) ?_
          refine .p rfl rfl (.no (.ne rfl rfl) (fun h => h rfl)) ?_
          refine .p rfl rfl (.pickF rfl rfl) ?_
          refine .p rfl rfl (.mv rfl) ?_
          refine .p rfl rfl (.mv rfl) ?_
          refine .p rfl rfl (.no (.ne rfl rfl) (fun h => h c35)) ?_
          refine .p rfl rfl (.pickF rfl rfl) ?_
          refine .p rfl rfl (.mv rfl) ?_
          refine .p rfl rfl (.mv rfl) ?_
          refine .p rfl rfl (.bytesStr rfl (Gr.rep (Gr.ext0 G43 (by repeat (first | exact Ext.refl _ | assumption | refine Ext.trans (by assumption) ?_)))) rfl rfl rfl) ?_
          refine .p rfl rfl (.mv rfl) ?_
          refine .p rfl rfl (.bytesStr rfl (Gr.rep (Gr.ext0 G31 (by repeat (first | exact Ext.refl _ | assumption | refine Ext.trans (by assumption) ?_)))) rfl rfl rfl) ?_
          refine .p rfl rfl (.no (.neS rfl rfl) (fun h => h rfl)) ?_
          refine .p rfl rfl (.pickF rfl rfl) ?_
          refine .p rfl rfl (.mv rfl) ?_
          refine .p rfl rfl (.fieldAddr rfl rfl rfl rfl) ?_
          refine .p rfl rfl (.load rfl rfl rfl ((B8.ext (S := fun _ => False) (by repeat (first | exact Ext.refl _ | assumption | refine Ext.trans (by assumption) ?_)) (fun x => x)).cell 0)) ?_
          refine .p rfl rfl (.fieldAddr rfl rfl rfl rfl) ?_
          refine .p rfl rfl (.load rfl rfl rfl ((B2.ext (S := fun _ => False) (by repeat (first | exact Ext.refl _ | assumption | refine Ext.trans (by assumption) ?_)) (fun x => x)).cell 0)) ?_
          refine .p rfl rfl (.no (.ne rfl rfl) (fun h => h rfl)) ?_
          refine .p rfl rfl (.pickF rfl rfl) ?_
          refine .p rfl rfl (.mv rfl) ?_
          refine .p rfl rfl (.fieldAddr rfl rfl rfl rfl) ?_
          refine .p rfl rfl (.load rfl rfl rfl ((B8.ext (S := fun _ => False) (by repeat (first | exact Ext.refl _ | assumption | refine Ext.trans (by assumption) ?_)) (fun x => x)).cell 1)) ?_
          refine .p rfl rfl (.len rfl rfl) ?_
          refine .p rfl rfl (.fieldAddr rfl rfl rfl rfl) ?_
          refine .p rfl rfl (.load rfl rfl rfl ((B2.ext (S := fun _ => False) (by repeat (first | exact Ext.refl _ | assumption | refine Ext.trans (by assumption) ?_)) (fun x => x)).cell 1)) ?_
          refine .p rfl rfl (.len rfl rfl) ?_
          refine .p rfl rfl (.no (.ne rfl rfl) (fun h => h rfl)) ?_
          refine .p rfl rfl (.pickF rfl rfl) ?_
          refine .nil (.code (.keep [(79, _), (5, _), (1, _)] ⟨rfl, rfl, rfl, trivial⟩ (.condF rfl (.skip ?_))))
          exact (meet _ (by repeat (first | exact Ext.refl _ | assumption | refine Ext.trans (by assumption) ?_))).of ⟨rfl, rfl, trivial⟩
        · refine .skip ?_
          exact (meet _ (by repeat (first | exact Ext.refl _ | assumption | refine Ext.trans (by assumption) ?_))).of ⟨rfl, rfl, trivial⟩
end Go.Proofs.YtpfehnopghffjaaGreatDoor
namespace Go.Proofs.YtpfehnopghffjaaGreatDoor
open Go Go.ChangeShapes Go.WideShapes Go.ChangeAt Go.RowKit
theorem bulk_one {H : Type} (d : DataW H) : 1 ≤ Rows.uptoBulk d := by
  cases d with
  | lit l => cases l <;> simp [Rows.uptoBulk]
  | nil => simp [Rows.uptoBulk]
  | ptr d => simp [Rows.uptoBulk]
  | slice elems spare => simp [Rows.uptoBulk]
  | agg parts => simp [Rows.uptoBulk]
  | iface t d => simp [Rows.uptoBulk]
  | map entries => simp [Rows.uptoBulk]
  | held h => simp [Rows.uptoBulk]
theorem bulk_part {H : Type} {d : DataW H} : ∀ {l : List (DataW H)}, d ∈ l → Rows.uptoBulk d ≤ Rows.uptoBulkAll l
  | x :: r, h => by
    simp only [Rows.uptoBulkAll]
    rcases List.mem_cons.1 h with rfl | h
    · omega
    · have := bulk_part h; omega
theorem bulk_length {H : Type} : ∀ (l : List (DataW H)), l.length ≤ Rows.uptoBulkAll l
  | [] => by simp [Rows.uptoBulkAll]
  | x :: r => by
    have := bulk_one x
    have := bulk_length r
    simp only [Rows.uptoBulkAll, List.length_cons]
    omega
theorem bulk_small {H : Type} {d : DataW H} {ds : List (DataW H)} (hk : Rows.uptoSmall H ds = true) (hd : d ∈ ds) : Rows.uptoBulk d ≤ 1048576 := by
  have h : Rows.uptoBulkAll ds ≤ 1048576 := of_decide_eq_true hk
  have := bulk_part hd
  omega
theorem upto_slice {α : Type} {t : Ty α} {x : List α} {H : Type} {enc : TypeId × Value → H} {W : World} {T E : TypeId} {v : Value} {d : DataW H} {p : List MemPlace} {ds : List (DataW H)} (hk : Rows.uptoSmall H ds = true) (hd : d ∈ ds) (hT : Tryz.prog.underlying T = some (.slice E)) (h : DataW.Trod enc Tryz.prog W 0 (fun _ => true) true T v d p) (hr : (Sl t).rep All W v x) : x.length ≤ 1048576 := by
  obtain ⟨a, cap, rfl, _⟩ := Sl.val hr
  obtain ⟨fuel, hf⟩ := h
  have hb := bulk_small hk hd
  have hf' : DataW.trod enc Tryz.prog W 0 (fun _ => true) true fuel T [.slice a x.length cap] = some (d, p) := hf
  rcases DataW.trod_slice hT hf' with ⟨h1, h2⟩ | ⟨a', len, cap', elems, rest, n, _, h1, h2, _, hl, hm, hlen, _⟩
  · simp only [List.cons.injEq, Value.slice.injEq] at h1
    omega
  · simp only [List.cons.injEq, Value.slice.injEq] at h1
    simp only [Prod.mk.injEq] at h2
    obtain ⟨rfl, _⟩ := h2
    have := bulk_length (elems.map (·.1))
    simp only [Rows.uptoBulk, List.length_map] at hb this
    omega
end Go.Proofs.YtpfehnopghffjaaGreatDoor
namespace Go.Proofs.YtpfehnopghffjaaGreatDoor
open Go Go.ChangeShapes Go.WideShapes Go.ChangeAt Go.RowKit
def BulkOK (P : Program) (T : TypeId) {α : Type} (t : Ty α) (m : α → Nat) : Prop :=
  ∀ (H : Type) (enc : TypeId × Value → H) (w : World) (fuel : Nat) (v : Value) (x : DataW H × List MemPlace) (y : α),
    DataW.trod enc P w 0 (fun _ => true) true fuel T v.cells.toList = some x → t.rep All w v y → m y ≤ Rows.uptoBulk x.1
section
variable {P : Program} {T E : TypeId} {α : Type} {t : Ty α}
theorem bulk_fields {fs : Array Field} (hT : P.underlying T = some (.struct fs)) : BulkOK P T t (fun _ => fs.size) := by
  intro H enc w fuel v x y h _
  obtain ⟨xs, n, _, rfl, _, hl, _⟩ := DataW.trod_struct hT h
  have := bulk_length (xs.map (·.1))
  simp only [Rows.uptoBulk, List.length_map] at this ⊢
  omega
theorem bulk_sum {H : Type} {m : α → Nat} : ∀ (ys : List α) (ds : List (DataW H)), ys.length = ds.length → (∀ i (h : i < ys.length) (h' : i < ds.length), m ys[i] ≤ Rows.uptoBulk ds[i]) → (ys.map m).sum ≤ Rows.uptoBulkAll ds
  | [], _, _, _ => by simp
  | y :: ys, [], h, _ => by simp at h
  | y :: ys, d :: ds, h, hk => by
    have h1 := bulk_sum ys ds (by simpa using h) (fun i h1 h2 => hk (i + 1) (Nat.succ_lt_succ h1) (Nat.succ_lt_succ h2))
    have h2 := hk 0 (by simp) (by simp)
    simp only [List.getElem_cons_zero] at h2
    simp only [List.map_cons, List.sum_cons, Rows.uptoBulkAll]
    omega
theorem bulk_slice {m : α → Nat} (hT : P.underlying T = some (.slice E)) (hc : P.cellsOf E = t.size) (ho : BulkOK P E t m) : BulkOK P T (Sl t) (fun ys => (ys.map m).sum) := by
  intro H enc w fuel v x ys h hr
  obtain ⟨a, cap, rfl, _⟩ := Sl.val hr
  rcases DataW.trod_slice hT h with ⟨h1, h2⟩ | ⟨a', len, cap', elems, rest, n, _, h1, h2, _, hl, hm, hlen, hel, _⟩
  · simp only [Value.cells, List.cons.injEq, Value.slice.injEq] at h1
    have : ys = [] := List.eq_nil_of_length_eq_zero h1.1.2.1
    subst this
    simp
  · simp only [Value.cells, List.cons.injEq, Value.slice.injEq, and_true] at h1
    obtain ⟨rfl, rfl, rfl⟩ := h1
    subst h2
    have hs : (ys.map m).sum ≤ Rows.uptoBulkAll (elems.map (·.1)) := by
      refine bulk_sum _ _ (by simp [hlen]) (fun i hi hi' => ?_)
      have hi2 : i < elems.length := by omega
      have h1 := hel i hi
      rw [List.getElem?_eq_getElem hi2] at h1
      obtain ⟨b, o, cap2, u, hv, _, hcs, hu⟩ := Sl.at hr (List.getElem?_eq_getElem hi)
      cases hv
      cases hcc : w.cells? 0 ((⟨b, o, none⟩ : Addr).add (i * P.cellsOf E)) (P.cellsOf E) with
      | none => simp [hcc] at h1
      | some cs' =>
        simp only [hcc, Option.bind_some] at h1
        obtain ⟨h2, h3⟩ := cells?_spec hcc
        have hsz := t.sz hu
        have e : cs' = u.cells.toList := by
          refine List.ext_getElem? (fun j => ?_)
          by_cases hj : j < cs'.length
          · have h4 := h3 j _ (List.getElem?_eq_getElem hj)
            have hj' : j < u.cells.toList.length := by rw [Array.length_toList, hsz]; omega
            have h5 := hcs j _ (List.getElem?_eq_getElem hj')
            rw [add_none, add_none, hc] at h4
            rw [h4] at h5
            rw [List.getElem?_eq_getElem hj, List.getElem?_eq_getElem hj', h5]
          · have hj' : ¬ j < u.cells.toList.length := by rw [Array.length_toList, hsz]; omega
            rw [List.getElem?_eq_none (by omega), List.getElem?_eq_none (by omega)]
        rw [e] at h1
        have := ho H enc w n u _ _ h1 hu
        simpa using this
    show _ ≤ Rows.uptoBulk (DataW.slice _ _)
    simp only [Rows.uptoBulk]
    omega
theorem bulk_part_of {β : Type} {s : Ty β} {g : α → β} {m : β → Nat} {fs : Array Field} {k : Nat} {f : Field} {E : TypeId} (hE : f.type = E) (hT : P.underlying T = some (.struct fs)) (hf : fs[k]? = some f)
    (hp : ∀ {w v y}, t.rep All w v y → ∃ u, (v.cells.toList.drop f.offset).take (P.cellsOf E) = u.cells.toList ∧ s.rep All w u (g y)) (ho : BulkOK P E s m) : BulkOK P T t (fun y => m (g y)) := by
  subst hE
  intro H enc w fuel v x y h hr
  obtain ⟨xs, n, _, rfl, _, hl, hx⟩ := DataW.trod_struct hT h
  obtain ⟨u, hu, hs⟩ := hp hr
  have h1 := hx k f hf
  rw [hu] at h1
  have hk : k < xs.length := by rw [hl]; exact (Array.getElem?_eq_some_iff.1 hf).1
  rw [List.getElem?_eq_getElem hk] at h1
  have h2 := ho H enc w n u _ _ h1 hs
  have h3 := bulk_part (d := (xs[k]).1) (l := xs.map (·.1)) (List.mem_map_of_mem (List.getElem_mem hk))
  simp only [Rows.uptoBulk]
  omega
end
theorem sum_two {α : Type} : ∀ (l : List α), (l.map (fun _ => 2)).sum = 2 * l.length
  | [] => rfl
  | _ :: l => by rw [List.map_cons, List.sum_cons, sum_two l, List.length_cons]; omega
namespace files
open room
def bulkF (f : File) : Nat := (f.ps.map (fun _ => 2)).sum
def bulkFs (l : List File) : Nat := (l.map bulkF).sum
theorem sum_pieces : ∀ (l : List File), bulkFs l = 2 * (allP l).length
  | [] => rfl
  | f :: l => by
    show bulkF f + bulkFs l = 2 * (f.ps ++ allP l).length
    rw [sum_pieces l, List.length_append, bulkF, sum_two]
    omega
theorem bulk_piece : BulkOK Tryz.prog 40 tPiece (fun _ => 2) := bulk_fields Tryz.underlying40
theorem bulk_pieces : BulkOK Tryz.prog 26 (Sl tPiece) (fun l => (l.map (fun _ => 2)).sum) := bulk_slice Tryz.underlying26 (by kernel_rfl) bulk_piece
theorem cells_pieces : Tryz.prog.cellsOf 26 = 1 := by kernel_rfl
theorem cells_files : Tryz.prog.cellsOf 22 = 1 := by kernel_rfl
theorem bulk_file : BulkOK Tryz.prog 28 tFile bulkF :=
  bulk_part_of (s := Sl tPiece) (g := File.ps) (m := fun l => (l.map (fun _ => 2)).sum) (k := 2) (E := 26) rfl Tryz.underlying28 rfl (fun h => by obtain ⟨a, c, rfl, h1, _⟩ := tFile.val h; exact ⟨_, by rw [cells_pieces]; rfl, h1⟩) bulk_pieces
theorem bulk_filesS : BulkOK Tryz.prog 22 (Sl tFile) bulkFs := bulk_slice Tryz.underlying22 (by kernel_rfl) bulk_file
theorem bulk_dir : BulkOK Tryz.prog 24 tDir (fun x => bulkFs x.fs) :=
  bulk_part_of (s := Sl tFile) (g := Dir.fs) (m := bulkFs) (k := 1) (E := 22) rfl Tryz.underlying24 rfl (fun h => by obtain ⟨a, c, rfl, h1, _⟩ := tDir.val h; exact ⟨_, by rw [cells_files]; rfl, h1⟩) bulk_filesS
theorem upto_dir {H : Type} {enc : TypeId × Value → H} {W : World} {v : Value} {d : DataW H} {p : List MemPlace} {ds : List (DataW H)} {x : Dir} (hk : Rows.uptoSmall H ds = true) (hd : d ∈ ds) (h : DataW.Trod enc Tryz.prog W 0 (fun _ => true) true 24 v d p) (hr : tDir.rep All W v x) : (allP x.fs).length ≤ 1000000 := by
  obtain ⟨fuel, hf⟩ := h
  have hb := bulk_small hk hd
  have h1 : bulkFs x.fs ≤ Rows.uptoBulk d := bulk_dir H enc W fuel v _ x hf hr
  rw [sum_pieces] at h1
  omega
end files
end Go.Proofs.YtpfehnopghffjaaGreatDoor
