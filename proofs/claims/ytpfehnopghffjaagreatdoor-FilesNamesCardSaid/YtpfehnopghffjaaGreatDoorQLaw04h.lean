/-
  FilesNames: the limits and errors have their numbers; the chapter's examples.
-/
import Derived.Test.YtpfehnopghffjaaGreatDoorQFNames
set_option linter.unusedVariables false
set_option linter.unusedSimpArgs false
set_option maxRecDepth 20000
namespace Go.Proofs.YtpfehnopghffjaaGreatDoor
open Go
open room files
theorem Ev.eqA {P : Program} {e : Env} {w : World} {x y : Operand} {T T' : TypeId} {xs ys : List Value} {q : Bool} (hx : look e x = some (.agg xs.toArray)) (hy : look e y = some (.agg ys.toArray)) (hm : P.eqGuardType P.depth T = false) (hq : ∀ w, (Op.equalIn 10000 T (.agg xs.toArray) (.agg ys.toArray)).run P w = .ok q w) : Ev P e (.binOp .eql T x y T') w (.bool q) :=
  fun w' _ ρ hρ o ho => by
    simp [execOp, ho, hρ _ _ hx, hρ _ _ hy, run_eqGuard_agg, hm, run_eql_struct, hq]
attribute [local irreducible] mountF roomF turnedF turnF disk.doF files.F100 files.bA files.text7
set_option maxHeartbeats 4000000 in
theorem FilesNames_fn {w : World} (hg : GOK w) : Fn Tryz.prog 8 [] w (fun r w2 => r = .bool true ∧ Ext (fun _ => False) w w2) := by
  obtain ⟨T, hT⟩ : ∃ t, t = text7 130 := ⟨_, rfl⟩
  have hTl : T.length = 130 := by rw [hT]; exact text7_length 130
  obtain ⟨c0, c1, hacts⟩ := acts_100 hTl
  obtain ⟨x, hx1, hx2, hx3, hx4, hx5, hx6⟩ := next_100 hTl
  rw [hacts] at hx1
  obtain ⟨y, hy1, hy2⟩ := next_B hx2 hx3 hx4 hx6
  obtain ⟨U, hU⟩ : ∃ t, t = text7 2561 := ⟨_, rfl⟩
  have hUl : U.length = 2561 := by rw [hU]; exact text7_length 2561
  have hg0 := hg
  refine Fn.enter (fun w => Tryz.call8 _ w) Tryz.func8 rfl ?_
  refine .seq (.region ?_)
  refine .p rfl rfl (.as rfl) ?_
  refine .nil (.code (.seq (.keep [] trivial (.region ?_))))
  refine .call (first := []) (captured := []) rfl rfl rfl rfl (Format_fn (n := 100) hg (by omega)) ?_
  rintro _ w32 ⟨v32, rfl, R32, X32⟩
  have z32 := X32.size
  rw [f100] at R32 ⊢
  have R32 := disk.tDisk.mono R32 (P' := fun k => k < w32.heap.size) (fun k _ hl => hl)
  obtain ⟨a1, k1, a2, k2, rfl⟩ := diskShape R32
  refine .p rfl rfl (.mv rfl) ?_
  refine .p rfl rfl (.extract rfl rfl) ?_
  refine .p rfl rfl (.extract rfl rfl) ?_
  refine .v rfl rfl (.alloc rfl rfl) ?_
  rintro _ wn1 ⟨rfl, N1⟩
  refine .s rfl (.storeAll (n := 3) rfl rfl rfl rfl rfl N1.blk rfl) ?_
  intro w1 P1
  have Y1 := N1.ext.then P1.ext (by rintro k rfl _; exact Nat.le_refl _)
  have zy1 := Y1.size
  have B1 := P1.blk
  clear P1 N1
  have hl1 := B1.lt
  refine .p rfl rfl (.as rfl) ?_
  refine .nil (.code (.seq (.keep [(1, _)] ⟨rfl, trivial⟩ (.region ?_))))
  refine .p rfl rfl (.loadA (n := 3) rfl rfl rfl rfl rfl (B1.ext (S := fun _ => False) (by repeat (first | exact Ext.refl _ | assumption | refine Ext.trans (by assumption) ?_)) (fun x => x)).cells) ?_
  refine .call (first := []) (captured := []) rfl rfl rfl rfl (Mount_fn (d := F100) (allOf (disk.tDisk.ext0 R32 (by repeat (first | exact Ext.refl _ | assumption | refine Ext.trans (by assumption) ?_)))) (hg.ext0 (by repeat (first | exact Ext.refl _ | assumption | refine Ext.trans (by assumption) ?_)))) ?_
  rintro _ w37 ⟨u37, rfl, R37, X37⟩
  have z37 := X37.size
  rw [f100_mount] at R37 ⊢
  obtain ⟨ah3, kh3, rfl, h3, _⟩ := tDir.val R37
  refine .p rfl rfl (.mv rfl) ?_
  refine .p rfl rfl (.extract rfl rfl) ?_
  refine .p rfl rfl (.extract rfl rfl) ?_
  refine .v rfl rfl (.alloc rfl rfl) ?_
  rintro _ wn3 ⟨rfl, N3⟩
  refine .s rfl (.storeAll (n := 2) rfl rfl rfl rfl rfl N3.blk rfl) ?_
  intro w3 P3
  have Y3 := N3.ext.then P3.ext (by rintro k rfl _; exact Nat.le_refl _)
  have zy3 := Y3.size
  have B3 := P3.blk
  clear P3 N3
  refine .p rfl rfl (.as rfl) ?_
  refine .nil (.code (.seq (.keep [(4, _), (3, _), (1, _)] ⟨rfl, rfl, rfl, trivial⟩ (.region ?_))))
  refine .p rfl rfl (.loadA (n := 3) rfl rfl rfl rfl rfl (B1.ext (S := fun _ => False) (by repeat (first | exact Ext.refl _ | assumption | refine Ext.trans (by assumption) ?_)) (fun x => x)).cells) ?_
  refine .call (first := []) (captured := []) rfl rfl rfl rfl (Room_fn (d := F100) (allOf (disk.tDisk.ext0 R32 (by repeat (first | exact Ext.refl _ | assumption | refine Ext.trans (by assumption) ?_)))) (hg.ext0 (by repeat (first | exact Ext.refl _ | assumption | refine Ext.trans (by assumption) ?_)))) ?_
  rintro _ w42 ⟨rfl, X42⟩
  have z42 := X42.size
  rw [f100_room]
  refine .p rfl rfl (.mv rfl) ?_
  refine .p rfl rfl (.extract rfl rfl) ?_
  refine .p rfl rfl (.extract rfl rfl) ?_
  refine .p rfl rfl (.as rfl) ?_
  refine .p rfl rfl (.as rfl) ?_
  refine .nil (.code (.seq (.keep [(6, _), (5, _), (4, _), (3, _), (1, _)] ⟨rfl, rfl, rfl, rfl, rfl, trivial⟩ (.region ?_))))
  refine .call (first := []) (captured := []) rfl rfl rfl rfl (Format_fn (n := 95) (hg.ext0 (by repeat (first | exact Ext.refl _ | assumption | refine Ext.trans (by assumption) ?_))) (by omega)) ?_
  rintro _ w46 ⟨v46, rfl, R46, X46⟩
  have z46 := X46.size
  rw [f95] at R46 ⊢
  obtain ⟨a3, k3, a4, k4, rfl⟩ := diskShape R46
  refine .p rfl rfl (.mv rfl) ?_
  refine .p rfl rfl (.extract rfl rfl) ?_
  refine .p rfl rfl (.extract rfl rfl) ?_
  refine .v rfl rfl (.alloc rfl rfl) ?_
  rintro _ wn7 ⟨rfl, N7⟩
  refine .s rfl (.storeAll (n := 3) rfl rfl rfl rfl rfl N7.blk rfl) ?_
  intro w7 P7
  have Y7 := N7.ext.then P7.ext (by rintro k rfl _; exact Nat.le_refl _)
  have zy7 := Y7.size
  have B7 := P7.blk
  clear P7 N7
  refine .p rfl rfl (.as rfl) ?_
  refine .nil (.code (.seq (.keep [(8, _), (6, _), (5, _), (4, _), (3, _), (1, _)] ⟨rfl, rfl, rfl, rfl, rfl, rfl, trivial⟩ (.region ?_))))
  refine .call (first := []) (captured := []) rfl rfl rfl rfl (New_fn (n := 100)) ?_
  rintro _ w50 ⟨v50, rfl, R50, X50⟩
  have z50 := X50.size
  rw [z_new] at R50 ⊢
  obtain ⟨a5, k5, a6, k6, rfl⟩ := diskShape R50
  refine .p rfl rfl (.mv rfl) ?_
  refine .p rfl rfl (.extract rfl rfl) ?_
  refine .p rfl rfl (.extract rfl rfl) ?_
  refine .v rfl rfl (.alloc rfl rfl) ?_
  rintro _ wn9 ⟨rfl, N9⟩
  refine .s rfl (.storeAll (n := 3) rfl rfl rfl rfl rfl N9.blk rfl) ?_
  intro w9 P9
  have Y9 := N9.ext.then P9.ext (by rintro k rfl _; exact Nat.le_refl _)
  have zy9 := Y9.size
  have B9 := P9.blk
  clear P9 N9
  refine .p rfl rfl (.as rfl) ?_
  refine .nil (.code (.seq (.keep [(9, _), (8, _), (6, _), (5, _), (4, _), (3, _), (1, _)] ⟨rfl, rfl, rfl, rfl, rfl, rfl, rfl, trivial⟩ (.region ?_))))
  refine .p rfl rfl (.loadA (n := 3) rfl rfl rfl rfl rfl (B9.ext (S := fun _ => False) (by repeat (first | exact Ext.refl _ | assumption | refine Ext.trans (by assumption) ?_)) (fun x => x)).cells) ?_
  refine .call (first := []) (captured := []) rfl rfl rfl rfl (Mount_fn (d := Z100) (allOf (disk.tDisk.ext0 R50 (by repeat (first | exact Ext.refl _ | assumption | refine Ext.trans (by assumption) ?_)))) (hg.ext0 (by repeat (first | exact Ext.refl _ | assumption | refine Ext.trans (by assumption) ?_)))) ?_
  rintro _ w55 ⟨u55, rfl, R55, X55⟩
  have z55 := X55.size
  rw [z_mount]
  obtain ⟨ah11, kh11, rfl, h11, _⟩ := tDir.val R55
  refine .p rfl rfl (.mv rfl) ?_
  refine .p rfl rfl (.extract rfl rfl) ?_
  refine .p rfl rfl (.extract rfl rfl) ?_
  refine .v rfl rfl (.alloc rfl rfl) ?_
  rintro _ wn11 ⟨rfl, N11⟩
  refine .s rfl (.storeAll (n := 2) rfl rfl rfl rfl rfl N11.blk rfl) ?_
  intro w11 P11
  have Y11 := N11.ext.then P11.ext (by rintro k rfl _; exact Nat.le_refl _)
  have zy11 := Y11.size
  have B11 := P11.blk
  clear P11 N11
  refine .p rfl rfl (.as rfl) ?_
  refine .nil (.code (.seq (.keep [(12, _), (8, _), (6, _), (5, _), (4, _), (3, _), (1, _)] ⟨rfl, rfl, rfl, rfl, rfl, rfl, rfl, trivial⟩ (.region ?_))))
  refine .p rfl rfl (.mv rfl) ?_
  refine .p rfl rfl (.yes (.eq rfl rfl) (rfl)) ?_
  refine .p rfl rfl (.mv rfl) ?_
  refine .p rfl rfl (.fieldAddr rfl rfl rfl rfl) ?_
  refine .p rfl rfl (.load rfl rfl rfl ((B3.ext (S := fun _ => False) (by repeat (first | exact Ext.refl _ | assumption | refine Ext.trans (by assumption) ?_)) (fun x => x)).cell 0)) ?_
  refine .p rfl rfl (.yes (.eq rfl rfl) (rfl)) ?_
  refine .p rfl rfl (.pickT rfl rfl) ?_
  refine .p rfl rfl (.mv rfl) ?_
  refine .p rfl rfl (.fieldAddr rfl rfl rfl rfl) ?_
  refine .p rfl rfl (.load rfl rfl rfl ((B3.ext (S := fun _ => False) (by repeat (first | exact Ext.refl _ | assumption | refine Ext.trans (by assumption) ?_)) (fun x => x)).cell 1)) ?_
  refine .p rfl rfl (.len rfl rfl) ?_
  refine .p rfl rfl (.yes (.eq rfl rfl) (rfl)) ?_
  refine .p rfl rfl (.pickT rfl rfl) ?_
  refine .p rfl rfl (.mv rfl) ?_
  refine .p rfl rfl (.mv rfl) ?_
  refine .p rfl rfl (.yes (.eq rfl rfl) (rfl)) ?_
  refine .p rfl rfl (.pickT rfl rfl) ?_
  refine .p rfl rfl (.mv rfl) ?_
  refine .p rfl rfl (.mv rfl) ?_
  refine .p rfl rfl (.yes (.eq rfl rfl) (rfl)) ?_
  refine .p rfl rfl (.pickT rfl rfl) ?_
  refine .p rfl rfl (.mv rfl) ?_
  refine .p rfl rfl (.mv rfl) ?_
  refine .p rfl rfl (.yes (.eq rfl rfl) (rfl)) ?_
  refine .p rfl rfl (.pickT rfl rfl) ?_
  refine .p rfl rfl (.mv rfl) ?_
  refine .p rfl rfl (.mv rfl) ?_
  refine .p rfl rfl (.yes (.eq rfl rfl) (rfl)) ?_
  refine .p rfl rfl (.pickT rfl rfl) ?_
  refine .p rfl rfl (.as rfl) ?_
  refine .nil (.code (.seq (.keep [(13, _), (3, _), (1, _)] ⟨rfl, rfl, rfl, trivial⟩ (.mix (fun _ => False) [1, 2, 3, 4] (by kernel_rfl) (by kernel_rfl) (by kernel_rfl) ?_))))
  refine .p rfl rfl rfl (fun wx hx => .loadA (n := 3) rfl rfl rfl rfl rfl (B1.ext (S := fun _ => False) (Ext.trans (by repeat (first | exact Ext.refl _ | assumption | refine Ext.trans (by assumption) ?_)) hx) (fun x => x)).cells) ?_
  refine .call (first := []) (captured := []) rfl rfl rfl rfl rfl (text_fn (n := 130) (by decide)) (by rintro _ _ ⟨_, hx⟩; exact Ext.trans (by repeat (first | exact Ext.refl _ | assumption | refine Ext.trans (by assumption) ?_)) hx) ?_
  rintro _ w89 ⟨rfl, X89⟩
  have z89 := X89.size
  rw [← hT]
  refine .call (first := []) (captured := []) rfl rfl rfl rfl rfl (lawPut_fn) (by rintro _ _ ⟨_, hx⟩; exact Ext.trans (by repeat (first | exact Ext.refl _ | assumption | refine Ext.trans (by assumption) ?_)) hx) ?_
  rintro _ w90 ⟨rfl, X90⟩
  have z90 := X90.size
  refine .v rfl rfl rfl (.lits rfl rfl (fun _ => by kernel_rfl)) (by rintro _ _ ⟨_, hN⟩; exact Ext.trans (by repeat (first | exact Ext.refl _ | assumption | refine Ext.trans (by assumption) ?_)) hN.ext) ?_
  rintro _ w91 ⟨rfl, N91⟩
  have X91 := N91.ext
  have z91 := N91.size
  have R91 : (Sl tree.tChange).rep All w91 (.slice _ 1 1) [chA T] := Sl.mk (us := [_]) (.cons (tree.tChange.mk (x := chA T) (show (1 : Nat) < Lim by decide) (by rw [show (chA T).value = T from rfl, hTl]; decide)) .nil) (by have := N91.blk.cells; exact this) trivial N91.blk.lt (by simp) (by simp [Lim]) rfl
  refine .call (first := []) (captured := []) rfl rfl rfl rfl rfl (Turn_fn (d := F100) (l := [chA T]) (allOf (disk.tDisk.ext0 R32 (by repeat (first | exact Ext.refl _ | assumption | refine Ext.trans (by assumption) ?_)))) R91 (hg.ext0 (by repeat (first | exact Ext.refl _ | assumption | refine Ext.trans (by assumption) ?_)))) (by rintro _ _ ⟨_, _, _, _, _, _, _, hx⟩; exact Ext.trans (by repeat (first | exact Ext.refl _ | assumption | refine Ext.trans (by assumption) ?_)) hx) ?_
  rintro _ w92 ⟨v92, Q92, A92, rfl, O92, hQ92, hB92, X92⟩
  have z92 := X92.size
  rw [hacts] at O92 ⊢
  have RA := actsO_rep O92
  obtain ⟨aA, kA, rfl, _⟩ := OwnO.val O92
  refine .p rfl rfl rfl (fun wx hx => .mv rfl) ?_
  refine .p rfl rfl rfl (fun wx hx => .extract rfl rfl) ?_
  refine .p rfl rfl rfl (fun wx hx => .extract rfl rfl) ?_
  refine .p rfl rfl rfl (fun wx hx => .as rfl) ?_
  refine .p rfl rfl rfl (fun wx hx => .as rfl) ?_
  refine .nil (.code (.seq (.seq (.keep [(15, _), (14, _), (13, _), (3, _), (1, _)] ⟨rfl, rfl, rfl, rfl, rfl, trivial⟩ (.region ?_)))))
  refine .p rfl rfl (.mv rfl) ?_
  refine .p rfl rfl (.no (.ne rfl rfl) (fun h => h rfl)) ?_
  refine .p rfl rfl (.mv rfl) ?_
  refine .p rfl rfl (.mv rfl) ?_
  refine .p rfl rfl (.len rfl rfl) ?_
  refine .p rfl rfl (.no (.ne rfl rfl) (fun h => h rfl)) ?_
  refine .p rfl rfl (.pickF rfl rfl) ?_
  refine .nil (.code (.keep [(101, _), (14, _), (13, _), (3, _), (1, _)] ⟨rfl, rfl, rfl, rfl, rfl, trivial⟩ (.condF rfl (.skip (.code (.seq (.keep [(14, _), (13, _), (3, _), (1, _)] ⟨rfl, rfl, rfl, rfl, trivial⟩ (.region ?_))))))))
  obtain ⟨b0, o0, q0, ue0, e0, _, hc0, hr0⟩ := Sl.at RA (i := 0) (x := ⟨false, 80, c0⟩) rfl
  cases e0
  obtain ⟨ux0, rfl, _⟩ := disk.tAct.val hr0
  obtain ⟨b1, o1, q1, ue1, e1, _, hc1, hr1⟩ := Sl.at RA (i := 1) (x := ⟨false, 81, c1⟩) rfl
  cases e1
  obtain ⟨ux1, rfl, _⟩ := disk.tAct.val hr1
  obtain ⟨b2, o2, q2, ue2, e2, _, hc2, hr2⟩ := Sl.at RA (i := 2) (x := flushA) rfl
  cases e2
  obtain ⟨ux2, rfl, _⟩ := disk.tAct.val hr2
  obtain ⟨b3, o3, q3, ue3, e3, _, hc3, hr3⟩ := Sl.at RA (i := 3) (x := ⟨false, ⟨((8 + 0 : Nat) : Int), (bA.drop (0 * 128)).take 128⟩⟩) rfl
  cases e3
  obtain ⟨ux3, rfl, _⟩ := disk.tAct.val hr3
  obtain ⟨b10, o10, q10, ue10, e10, _, hc10, hr10⟩ := Sl.at RA (i := 10) (x := ⟨false, ⟨((8 + 7 : Nat) : Int), (bA.drop (7 * 128)).take 128⟩⟩) rfl
  cases e10
  obtain ⟨ux10, rfl, _⟩ := disk.tAct.val hr10
  obtain ⟨b11, o11, q11, ue11, e11, _, hc11, hr11⟩ := Sl.at RA (i := 11) (x := flushA) rfl
  cases e11
  obtain ⟨ux11, rfl, _⟩ := disk.tAct.val hr11
  refine .p rfl rfl (.mv rfl) ?_
  refine .p rfl rfl (.indexAddr (s := 3) rfl rfl rfl rfl (by show (0 : Int) ≤ 0 ∧ (0 : Int) < 12; decide)) ?_
  refine .p rfl rfl (.fieldAddr rfl rfl rfl rfl) ?_
  refine .p rfl rfl (.fieldAddr rfl rfl rfl rfl) ?_
  refine .p rfl rfl (.load rfl rfl rfl (hc0 1 _ rfl)) ?_
  refine .p rfl rfl (.yes (.eq rfl rfl) (rfl)) ?_
  refine .p rfl rfl (.mv rfl) ?_
  refine .p rfl rfl (.mv rfl) ?_
  refine .p rfl rfl (.indexAddr (s := 3) rfl rfl rfl rfl (by show (0 : Int) ≤ 1 ∧ (1 : Int) < 12; decide)) ?_
  refine .p rfl rfl (.fieldAddr rfl rfl rfl rfl) ?_
  refine .p rfl rfl (.fieldAddr rfl rfl rfl rfl) ?_
  refine .p rfl rfl (.load rfl rfl rfl (hc1 1 _ rfl)) ?_
  refine .p rfl rfl (.yes (.eq rfl rfl) (rfl)) ?_
  refine .p rfl rfl (.pickT rfl rfl) ?_
  refine .p rfl rfl (.mv rfl) ?_
  refine .p rfl rfl (.mv rfl) ?_
  refine .p rfl rfl (.indexAddr (s := 3) rfl rfl rfl rfl (by show (0 : Int) ≤ 2 ∧ (2 : Int) < 12; decide)) ?_
  refine .p rfl rfl (.fieldAddr rfl rfl rfl rfl) ?_
  refine .p rfl rfl (.cast (.load rfl rfl rfl (hc2 0 _ rfl)) (show _ = Value.bool true from rfl)) ?_
  refine .p rfl rfl (.pickT rfl rfl) ?_
  refine .p rfl rfl (.mv rfl) ?_
  refine .p rfl rfl (.mv rfl) ?_
  refine .p rfl rfl (.indexAddr (s := 3) rfl rfl rfl rfl (by show (0 : Int) ≤ 3 ∧ (3 : Int) < 12; decide)) ?_
  refine .p rfl rfl (.fieldAddr rfl rfl rfl rfl) ?_
  refine .p rfl rfl (.fieldAddr rfl rfl rfl rfl) ?_
  refine .p rfl rfl (.load rfl rfl rfl (hc3 1 _ rfl)) ?_
  refine .p rfl rfl (.yes (.eq rfl rfl) (rfl)) ?_
  refine .p rfl rfl (.pickT rfl rfl) ?_
  refine .p rfl rfl (.mv rfl) ?_
  refine .p rfl rfl (.mv rfl) ?_
  refine .p rfl rfl (.indexAddr (s := 3) rfl rfl rfl rfl (by show (0 : Int) ≤ 10 ∧ (10 : Int) < 12; decide)) ?_
  refine .p rfl rfl (.fieldAddr rfl rfl rfl rfl) ?_
  refine .p rfl rfl (.fieldAddr rfl rfl rfl rfl) ?_
  refine .p rfl rfl (.load rfl rfl rfl (hc10 1 _ rfl)) ?_
  refine .p rfl rfl (.yes (.eq rfl rfl) (rfl)) ?_
  refine .p rfl rfl (.pickT rfl rfl) ?_
  refine .p rfl rfl (.mv rfl) ?_
  refine .p rfl rfl (.mv rfl) ?_
  refine .p rfl rfl (.indexAddr (s := 3) rfl rfl rfl rfl (by show (0 : Int) ≤ 11 ∧ (11 : Int) < 12; decide)) ?_
  refine .p rfl rfl (.fieldAddr rfl rfl rfl rfl) ?_
  refine .p rfl rfl (.cast (.load rfl rfl rfl (hc11 0 _ rfl)) (show _ = Value.bool true from rfl)) ?_
  refine .p rfl rfl (.pickT rfl rfl) ?_
  refine .p rfl rfl (.as rfl) ?_
  refine .nil (.code (.seq (.keep [(16, _), (14, _), (13, _), (3, _), (1, _)] ⟨rfl, rfl, rfl, rfl, rfl, trivial⟩ (.region ?_))))
  refine .p rfl rfl (.loadA (n := 3) rfl rfl rfl rfl rfl (B1.ext (S := fun _ => False) (by repeat (first | exact Ext.refl _ | assumption | refine Ext.trans (by assumption) ?_)) (fun x => x)).cells) ?_
  refine .p rfl rfl (.mv rfl) ?_
  refine .call (first := []) (captured := []) rfl rfl rfl rfl (Do_fn (d := F100) (l := ([⟨false, 80, c0⟩, ⟨false, 81, c1⟩, flushA] ++ dirA bA 8 ++ [flushA])) (allOf (disk.tDisk.ext0 R32 (by repeat (first | exact Ext.refl _ | assumption | refine Ext.trans (by assumption) ?_)))) (actsO_rep (OwnO.ext0 O92 (by repeat (first | exact Ext.refl _ | assumption | refine Ext.trans (by assumption) ?_))))) ?_
  rintro _ w147 ⟨v147, rfl, D147, X147⟩
  have z147 := X147.size
  rw [hx1] at D147 ⊢
  have R147 := D147.rep
  obtain ⟨a7, k7, a8, k8, rfl⟩ := diskShape R147
  refine .p rfl rfl (.mv rfl) ?_
  refine .p rfl rfl (.extract rfl rfl) ?_
  refine .p rfl rfl (.extract rfl rfl) ?_
  refine .v rfl rfl (.alloc rfl rfl) ?_
  rintro _ wn17 ⟨rfl, N17⟩
  refine .s rfl (.storeAll (n := 3) rfl rfl rfl rfl rfl N17.blk rfl) ?_
  intro w17 P17
  have Y17 := N17.ext.then P17.ext (by rintro k rfl _; exact Nat.le_refl _)
  have zy17 := Y17.size
  have B17 := P17.blk
  clear P17 N17
  refine .p rfl rfl (.as rfl) ?_
  refine .nil (.code (.seq (.keep [(17, _), (16, _), (13, _), (3, _), (1, _)] ⟨rfl, rfl, rfl, rfl, rfl, trivial⟩ (.region ?_))))
  refine .p rfl rfl (.loadA (n := 3) rfl rfl rfl rfl rfl (B17.ext (S := fun _ => False) (by repeat (first | exact Ext.refl _ | assumption | refine Ext.trans (by assumption) ?_)) (fun x => x)).cells) ?_
  refine .call (first := []) (captured := []) rfl rfl rfl rfl (Mount_fn (d := x) (allOf (disk.tDisk.ext0 R147 (by repeat (first | exact Ext.refl _ | assumption | refine Ext.trans (by assumption) ?_)))) (hg.ext0 (by repeat (first | exact Ext.refl _ | assumption | refine Ext.trans (by assumption) ?_)))) ?_
  rintro _ w152 ⟨u152, rfl, R152, X152⟩
  have z152 := X152.size
  rw [hx4] at R152 ⊢
  obtain ⟨a13, k13, rfl, h13, _⟩ := tDir.val R152
  have hl3 := B3.lt
  have hl17 := B17.lt
  refine .p rfl rfl (.mv rfl) ?_
  refine .p rfl rfl (.extract rfl rfl) ?_
  refine .p rfl rfl (.extract rfl rfl) ?_
  refine .s rfl (.storeAll (n := 2) rfl rfl rfl rfl rfl (B3.ext (S := fun _ => False) (by repeat (first | exact Ext.refl _ | assumption | refine Ext.trans (by assumption) ?_)) (fun x => x)) rfl) ?_
  intro w13 P13
  have XWP13 : Ext (fun _ => False) w w13 := Ext.then (by repeat (first | exact Ext.refl _ | assumption | refine Ext.trans (by assumption) ?_)) P13.ext (by rintro k rfl _; omega)
  have B3 := P13.blk
  have R32 : disk.tDisk.rep (fun k => k < w32.heap.size) w13 _ F100 := disk.tDisk.ext (disk.tDisk.ext0 R32 (by repeat (first | exact Ext.refl _ | assumption | refine Ext.trans (by assumption) ?_))) P13.ext (by rintro k hk _ rfl; have hk : w37.heap.size < w32.heap.size := hk; omega)
  have R147 : disk.tDisk.rep (fun k => w92.heap.size ≤ k) w13 _ x := disk.tDisk.ext (disk.tDisk.ext0 R147 (by repeat (first | exact Ext.refl _ | assumption | refine Ext.trans (by assumption) ?_))) P13.ext (by rintro k hk _ rfl; have hk : w92.heap.size ≤ w37.heap.size := hk; omega)
  have h13 := (Sl tFile).ext h13 P13.ext (by rintro k hk _ rfl; have hk : w17.heap.size ≤ w37.heap.size := hk; omega)
  have B1 := (B1.ext (S := fun _ => False) (w' := w152) (by repeat (first | exact Ext.refl _ | assumption | refine Ext.trans (by assumption) ?_)) (fun x => x)).ext P13.ext (by intro h; have h : w32.heap.size = w37.heap.size := h; omega)
  have B17 := (B17.ext (S := fun _ => False) (w' := w152) (by repeat (first | exact Ext.refl _ | assumption | refine Ext.trans (by assumption) ?_)) (fun x => x)).ext P13.ext (by intro h; have h : w147.heap.size = w37.heap.size := h; omega)
  have hg := hg.ext0 XWP13
  have z13 := P13.ext.size
  obtain ⟨bF, oF, qF, ueF, eF, _, hcF, hrF⟩ := Sl.at h13 (i := 0) (x := ⟨[97], 130, [⟨80, 2⟩]⟩) rfl
  cases eF
  obtain ⟨fa, fc, rfl, hps, _, _⟩ := tFile.val hrF
  obtain ⟨bP, oP, qP, ueP, eP, _, hcP, hrP⟩ := Sl.at hps (i := 0) (x := ⟨80, 2⟩) rfl
  cases eP
  obtain ⟨rfl, _, _⟩ := tPiece.val hrP
  refine .nil (.code (.seq (.keep [(17, _), (16, _), (13, _), (3, _), (1, _)] ⟨rfl, rfl, rfl, rfl, rfl, trivial⟩ (.region ?_))))
  refine .p rfl rfl (.loadA (n := 3) rfl rfl rfl rfl rfl (B17.ext (S := fun _ => False) (by repeat (first | exact Ext.refl _ | assumption | refine Ext.trans (by assumption) ?_)) (fun x => x)).cells) ?_
  refine .call (first := []) (captured := []) rfl rfl rfl rfl (Room_fn (d := x) (allOf (disk.tDisk.ext0 R147 (by repeat (first | exact Ext.refl _ | assumption | refine Ext.trans (by assumption) ?_)))) (hg.ext0 (by repeat (first | exact Ext.refl _ | assumption | refine Ext.trans (by assumption) ?_)))) ?_
  rintro _ w157 ⟨rfl, X157⟩
  have z157 := X157.size
  rw [hx5]
  refine .p rfl rfl (.mv rfl) ?_
  refine .p rfl rfl (.extract rfl rfl) ?_
  refine .p rfl rfl (.extract rfl rfl) ?_
  refine .p rfl rfl (.as rfl) ?_
  refine .nil (.code (.seq (.keep [(5, _), (17, _), (16, _), (13, _), (3, _), (1, _)] ⟨rfl, rfl, rfl, rfl, rfl, rfl, trivial⟩ (.region ?_))))
  refine .p rfl rfl (.fieldAddr rfl rfl rfl rfl) ?_
  refine .p rfl rfl (.load rfl rfl rfl ((B3.ext (S := fun _ => False) (by repeat (first | exact Ext.refl _ | assumption | refine Ext.trans (by assumption) ?_)) (fun x => x)).cell 0)) ?_
  refine .p rfl rfl (.yes (.eq rfl rfl) (rfl)) ?_
  refine .p rfl rfl (.mv rfl) ?_
  refine .p rfl rfl (.fieldAddr rfl rfl rfl rfl) ?_
  refine .p rfl rfl (.load rfl rfl rfl ((B3.ext (S := fun _ => False) (by repeat (first | exact Ext.refl _ | assumption | refine Ext.trans (by assumption) ?_)) (fun x => x)).cell 1)) ?_
  refine .p rfl rfl (.len rfl rfl) ?_
  refine .p rfl rfl (.yes (.eq rfl rfl) (rfl)) ?_
  refine .p rfl rfl (.pickT rfl rfl) ?_
  refine .p rfl rfl (.mv rfl) ?_
  refine .p rfl rfl (.fieldAddr rfl rfl rfl rfl) ?_
  refine .p rfl rfl (.load rfl rfl rfl ((B3.ext (S := fun _ => False) (by repeat (first | exact Ext.refl _ | assumption | refine Ext.trans (by assumption) ?_)) (fun x => x)).cell 1)) ?_
  refine .p rfl rfl (.indexAddr (s := 3) rfl rfl rfl rfl (by show (0 : Int) ≤ 0 ∧ (0 : Int) < 1; decide)) ?_
  refine .p rfl rfl (.fieldAddr rfl rfl rfl rfl) ?_
  refine .p rfl rfl (.load rfl rfl rfl (hcF.ext (S := fun _ => False) (by repeat (first | exact Ext.refl _ | assumption | refine Ext.trans (by assumption) ?_)) (fun x => x) 0 _ rfl)) ?_
  refine .p rfl rfl (.yes (.eqS rfl rfl) (rfl)) ?_
  refine .p rfl rfl (.pickT rfl rfl) ?_
  refine .p rfl rfl (.mv rfl) ?_
  refine .p rfl rfl (.fieldAddr rfl rfl rfl rfl) ?_
  refine .p rfl rfl (.load rfl rfl rfl ((B3.ext (S := fun _ => False) (by repeat (first | exact Ext.refl _ | assumption | refine Ext.trans (by assumption) ?_)) (fun x => x)).cell 1)) ?_
  refine .p rfl rfl (.indexAddr (s := 3) rfl rfl rfl rfl (by show (0 : Int) ≤ 0 ∧ (0 : Int) < 1; decide)) ?_
  refine .p rfl rfl (.fieldAddr rfl rfl rfl rfl) ?_
  refine .p rfl rfl (.load rfl rfl rfl (hcF.ext (S := fun _ => False) (by repeat (first | exact Ext.refl _ | assumption | refine Ext.trans (by assumption) ?_)) (fun x => x) 1 _ rfl)) ?_
  refine .p rfl rfl (.yes (.eq rfl rfl) (rfl)) ?_
  refine .p rfl rfl (.pickT rfl rfl) ?_
  refine .p rfl rfl (.mv rfl) ?_
  refine .p rfl rfl (.fieldAddr rfl rfl rfl rfl) ?_
  refine .p rfl rfl (.load rfl rfl rfl ((B3.ext (S := fun _ => False) (by repeat (first | exact Ext.refl _ | assumption | refine Ext.trans (by assumption) ?_)) (fun x => x)).cell 1)) ?_
  refine .p rfl rfl (.indexAddr (s := 3) rfl rfl rfl rfl (by show (0 : Int) ≤ 0 ∧ (0 : Int) < 1; decide)) ?_
  refine .p rfl rfl (.fieldAddr rfl rfl rfl rfl) ?_
  refine .p rfl rfl (.load rfl rfl rfl (hcF.ext (S := fun _ => False) (by repeat (first | exact Ext.refl _ | assumption | refine Ext.trans (by assumption) ?_)) (fun x => x) 2 _ rfl)) ?_
  refine .p rfl rfl (.len rfl rfl) ?_
  refine .p rfl rfl (.yes (.eq rfl rfl) (rfl)) ?_
  refine .p rfl rfl (.pickT rfl rfl) ?_
  refine .p rfl rfl (.mv rfl) ?_
  refine .p rfl rfl (.fieldAddr rfl rfl rfl rfl) ?_
  refine .p rfl rfl (.load rfl rfl rfl ((B3.ext (S := fun _ => False) (by repeat (first | exact Ext.refl _ | assumption | refine Ext.trans (by assumption) ?_)) (fun x => x)).cell 1)) ?_
  refine .p rfl rfl (.indexAddr (s := 3) rfl rfl rfl rfl (by show (0 : Int) ≤ 0 ∧ (0 : Int) < 1; decide)) ?_
  refine .p rfl rfl (.fieldAddr rfl rfl rfl rfl) ?_
  refine .p rfl rfl (.load rfl rfl rfl (hcF.ext (S := fun _ => False) (by repeat (first | exact Ext.refl _ | assumption | refine Ext.trans (by assumption) ?_)) (fun x => x) 2 _ rfl)) ?_
  refine .p rfl rfl (.indexAddr (s := 2) rfl rfl rfl rfl (by show (0 : Int) ≤ 0 ∧ (0 : Int) < 1; decide)) ?_
  refine .p rfl rfl (.loadA (n := 2) rfl rfl rfl rfl rfl (hcP.ext (S := fun _ => False) (by repeat (first | exact Ext.refl _ | assumption | refine Ext.trans (by assumption) ?_)) (fun x => x))) ?_
  refine .p rfl rfl (.build (cs := [i64 80, i64 2]) rfl (fun _ => by kernel_rfl)) ?_
  refine .p rfl rfl (.cast (.eqA (xs := [_, _]) (ys := [_, _]) rfl rfl (by kernel_rfl) (piece_eq ⟨80, 2⟩ ⟨80, 2⟩)) (by rw [decide_eq_true rfl])) ?_
  refine .p rfl rfl (.pickT rfl rfl) ?_
  refine .p rfl rfl (.mv rfl) ?_
  refine .p rfl rfl (.mv rfl) ?_
  refine .p rfl rfl (.yes (.eq rfl rfl) (rfl)) ?_
  refine .p rfl rfl (.pickT rfl rfl) ?_
  refine .p rfl rfl (.as rfl) ?_
  refine .nil (.code (.seq (.keep [(19, _), (17, _), (16, _), (13, _), (3, _), (1, _)] ⟨rfl, rfl, rfl, rfl, rfl, rfl, trivial⟩ ?_)))
  have B17r := B17.ext (S := fun _ => False) (w' := w157) (by repeat (first | exact Ext.refl _ | assumption | refine Ext.trans (by assumption) ?_)) (fun x => x)
  have R147r := disk.tDisk.ext0 R147 (show Ext (fun _ => False) w13 w157 from (by repeat (first | exact Ext.refl _ | assumption | refine Ext.trans (by assumption) ?_)))
  have hg157 := hg.ext0 (show Ext (fun _ => False) w13 w157 from (by repeat (first | exact Ext.refl _ | assumption | refine Ext.trans (by assumption) ?_)))
  refine .meet (S := Nat × (Option Addr × Nat × Option Addr × Nat) × World) (fun s => [(1, .pointer (some ⟨w32.heap.size, 0, none⟩)), (3, .pointer (some ⟨w37.heap.size, 0, none⟩)), (13, .bool true), (16, .bool true), (19, .bool true), (20, .pointer (some ⟨s.1, 0, none⟩)), (21, i64 0)]) (fun s => s.2.2) (fun s => Blk s.2.2 s.1 44 [i64 y.count, .slice s.2.1.1 y.data.length s.2.1.2.1, .slice s.2.1.2.2.1 y.waits.length s.2.1.2.2.2] ∧ disk.tDisk.rep All s.2.2 (.agg #[i64 y.count, .slice s.2.1.1 y.data.length s.2.1.2.1, .slice s.2.1.2.2.1 y.waits.length s.2.1.2.2.2]) y ∧ Ext (fun _ => False) w157 s.2.2) ?_ ?_
  · rintro ⟨p, ⟨x16, y16, p16, q16⟩, wm⟩ ⟨Bm, Rm, Xm⟩
    simp only at Bm Rm Xm
    have zm := Xm.size
    change A _ [(1, .pointer (some ⟨w32.heap.size, 0, none⟩)), (3, .pointer (some ⟨w37.heap.size, 0, none⟩)), (13, .bool true), (16, .bool true), (19, .bool true), (20, .pointer (some ⟨p, 0, none⟩)), (21, i64 0)] _ wm
    refine .code (.seq (.region ?_))
    refine .p rfl rfl (.loadA (n := 3) rfl rfl rfl rfl rfl (Bm.ext (S := fun _ => False) (by repeat (first | exact Ext.refl _ | assumption | refine Ext.trans (by assumption) ?_)) (fun x => x)).cells) ?_
    refine .call (first := []) (captured := []) rfl rfl rfl rfl (Mount_fn (d := y) (allOf (disk.tDisk.ext0 Rm (by repeat (first | exact Ext.refl _ | assumption | refine Ext.trans (by assumption) ?_)))) (hg157.ext0 (by repeat (first | exact Ext.refl _ | assumption | refine Ext.trans (by assumption) ?_)))) ?_
    rintro _ w219 ⟨u219, rfl, R219, X219⟩
    have z219 := X219.size
    rw [hy2] at R219 ⊢
    obtain ⟨a19, k19, rfl, h19, _⟩ := tDir.val R219
    refine .p rfl rfl (.mv rfl) ?_
    refine .p rfl rfl (.extract rfl rfl) ?_
    refine .p rfl rfl (.extract rfl rfl) ?_
    refine .s rfl (.storeAll (n := 2) rfl rfl rfl rfl rfl (B3.ext (S := fun _ => False) (by repeat (first | exact Ext.refl _ | assumption | refine Ext.trans (by assumption) ?_)) (fun x => x)) rfl) ?_
    intro w18 P18
    have XWP18 : Ext (fun _ => False) w w18 := Ext.then (by repeat (first | exact Ext.refl _ | assumption | refine Ext.trans (by assumption) ?_)) P18.ext (by rintro k rfl _; omega)
    have B3 := P18.blk
    have R32 : disk.tDisk.rep (fun k => k < w32.heap.size) w18 _ F100 := disk.tDisk.ext (disk.tDisk.ext0 R32 (by repeat (first | exact Ext.refl _ | assumption | refine Ext.trans (by assumption) ?_))) P18.ext (by rintro k hk _ rfl; have hk : w37.heap.size < w32.heap.size := hk; omega)
    have h19 := (Sl tFile).ext h19 P18.ext (by rintro k hk _ rfl; have hk : wm.heap.size ≤ w37.heap.size := hk; omega)
    have B1 := (B1.ext (S := fun _ => False) (w' := w219) (by repeat (first | exact Ext.refl _ | assumption | refine Ext.trans (by assumption) ?_)) (fun x => x)).ext P18.ext (by intro h; have h : w32.heap.size = w37.heap.size := h; omega)
    have hg := hg0.ext0 XWP18
    have z18 := P18.ext.size
    obtain ⟨bG, oG, qG, ueG, eG, _, hcG, hrG⟩ := Sl.at h19 (i := 0) (x := ⟨[98], 0, []⟩) rfl
    cases eG
    obtain ⟨fb, fd, rfl, hpt, _, _⟩ := tFile.val hrG
    refine .nil (.code (.seq (.keep [(1, _), (3, _), (13, _), (16, _), (19, _), (21, _)] ⟨rfl, rfl, rfl, rfl, rfl, rfl, trivial⟩ (.region ?_))))
    refine .p rfl rfl (.mv rfl) ?_
    refine .p rfl rfl (.yes (.eq rfl rfl) (rfl)) ?_
    refine .p rfl rfl (.mv rfl) ?_
    refine .p rfl rfl (.fieldAddr rfl rfl rfl rfl) ?_
    refine .p rfl rfl (.load rfl rfl rfl ((B3.ext (S := fun _ => False) (by repeat (first | exact Ext.refl _ | assumption | refine Ext.trans (by assumption) ?_)) (fun x => x)).cell 0)) ?_
    refine .p rfl rfl (.yes (.eq rfl rfl) (rfl)) ?_
    refine .p rfl rfl (.pickT rfl rfl) ?_
    refine .p rfl rfl (.mv rfl) ?_
    refine .p rfl rfl (.fieldAddr rfl rfl rfl rfl) ?_
    refine .p rfl rfl (.load rfl rfl rfl ((B3.ext (S := fun _ => False) (by repeat (first | exact Ext.refl _ | assumption | refine Ext.trans (by assumption) ?_)) (fun x => x)).cell 1)) ?_
    refine .p rfl rfl (.len rfl rfl) ?_
    refine .p rfl rfl (.yes (.eq rfl rfl) (rfl)) ?_
    refine .p rfl rfl (.pickT rfl rfl) ?_
    refine .p rfl rfl (.mv rfl) ?_
    refine .p rfl rfl (.fieldAddr rfl rfl rfl rfl) ?_
    refine .p rfl rfl (.load rfl rfl rfl ((B3.ext (S := fun _ => False) (by repeat (first | exact Ext.refl _ | assumption | refine Ext.trans (by assumption) ?_)) (fun x => x)).cell 1)) ?_
    refine .p rfl rfl (.indexAddr (s := 3) rfl rfl rfl rfl (by show (0 : Int) ≤ 0 ∧ (0 : Int) < 1; decide)) ?_
    refine .p rfl rfl (.fieldAddr rfl rfl rfl rfl) ?_
    refine .p rfl rfl (.load rfl rfl rfl (hcG.ext (S := fun _ => False) (by repeat (first | exact Ext.refl _ | assumption | refine Ext.trans (by assumption) ?_)) (fun x => x) 0 _ rfl)) ?_
    refine .p rfl rfl (.yes (.eqS rfl rfl) (rfl)) ?_
    refine .p rfl rfl (.pickT rfl rfl) ?_
    refine .p rfl rfl (.mv rfl) ?_
    refine .p rfl rfl (.fieldAddr rfl rfl rfl rfl) ?_
    refine .p rfl rfl (.load rfl rfl rfl ((B3.ext (S := fun _ => False) (by repeat (first | exact Ext.refl _ | assumption | refine Ext.trans (by assumption) ?_)) (fun x => x)).cell 1)) ?_
    refine .p rfl rfl (.indexAddr (s := 3) rfl rfl rfl rfl (by show (0 : Int) ≤ 0 ∧ (0 : Int) < 1; decide)) ?_
    refine .p rfl rfl (.fieldAddr rfl rfl rfl rfl) ?_
    refine .p rfl rfl (.load rfl rfl rfl (hcG.ext (S := fun _ => False) (by repeat (first | exact Ext.refl _ | assumption | refine Ext.trans (by assumption) ?_)) (fun x => x) 2 _ rfl)) ?_
    refine .p rfl rfl (.len rfl rfl) ?_
    refine .p rfl rfl (.yes (.eq rfl rfl) (rfl)) ?_
    refine .p rfl rfl (.pickT rfl rfl) ?_
    refine .p rfl rfl (.as rfl) ?_
    refine .nil (.code (.seq (.keep [(22, _), (1, _), (13, _), (16, _), (19, _)] ⟨rfl, rfl, rfl, rfl, rfl, trivial⟩ (.region ?_))))
    refine .p rfl rfl (.loadA (n := 3) rfl rfl rfl rfl rfl (B1.ext (S := fun _ => False) (by repeat (first | exact Ext.refl _ | assumption | refine Ext.trans (by assumption) ?_)) (fun x => x)).cells) ?_
    refine .p rfl rfl (.build (cs := [str [120], str [], .bool true]) rfl (fun _ => by kernel_rfl)) ?_
    refine .v rfl rfl (.lits rfl rfl (fun _ => by kernel_rfl)) ?_
    rintro _ w255 ⟨rfl, N255⟩
    have X255 := N255.ext
    have z255 := N255.size
    have R255 : (Sl tree.tChange).rep All w255 (.slice _ 1 1) [⟨[120], [], true⟩] := Sl.mk (us := [_]) (.cons (tree.tChange.mk (x := ⟨[120], [], true⟩) (show (1 : Nat) < Lim by decide) (show (0 : Nat) < Lim by decide)) .nil) (by have := N255.blk.cells; exact this) trivial N255.blk.lt (by simp) (by simp [Lim]) rfl
    refine .call (first := []) (captured := []) rfl rfl rfl rfl (Turn_fn (d := F100) (l := [⟨[120], [], true⟩]) (allOf (disk.tDisk.ext0 R32 (by repeat (first | exact Ext.refl _ | assumption | refine Ext.trans (by assumption) ?_)))) R255 (hg.ext0 (by repeat (first | exact Ext.refl _ | assumption | refine Ext.trans (by assumption) ?_)))) ?_
    rintro _ w256 ⟨v256, Q256, A256, rfl, O256, hQ256, hB256, X256⟩
    have z256 := X256.size
    rw [err_x]
    refine .p rfl rfl (.mv rfl) ?_
    refine .p rfl rfl (.extract rfl rfl) ?_
    refine .p rfl rfl (.extract rfl rfl) ?_
    refine .p rfl rfl (.as rfl) ?_
    refine .p rfl rfl (.as rfl) ?_
    refine .nil (.code (.seq (.keep [(24, _), (22, _), (1, _), (13, _), (16, _), (19, _)] ⟨rfl, rfl, rfl, rfl, rfl, rfl, trivial⟩ (.mix (fun _ => False) [1, 2, 3] (by kernel_rfl) (by kernel_rfl) (by kernel_rfl) ?_))))
    refine .p rfl rfl rfl (fun wx hx => .loadA (n := 3) rfl rfl rfl rfl rfl (B1.ext (S := fun _ => False) (Ext.trans (by repeat (first | exact Ext.refl _ | assumption | refine Ext.trans (by assumption) ?_)) hx) (fun x => x)).cells) ?_
    refine .call (first := []) (captured := []) rfl rfl rfl rfl rfl (lawPut_fn) (by rintro _ _ ⟨_, hx⟩; exact Ext.trans (by repeat (first | exact Ext.refl _ | assumption | refine Ext.trans (by assumption) ?_)) hx) ?_
    rintro _ w261 ⟨rfl, X261⟩
    have z261 := X261.size
    refine .v rfl rfl rfl (.lits rfl rfl (fun _ => by kernel_rfl)) (by rintro _ _ ⟨_, hN⟩; exact Ext.trans (by repeat (first | exact Ext.refl _ | assumption | refine Ext.trans (by assumption) ?_)) hN.ext) ?_
    rintro _ w262 ⟨rfl, N262⟩
    have X262 := N262.ext
    have z262 := N262.size
    have R262 : (Sl tree.tChange).rep All w262 (.slice _ 1 1) [⟨[65], [], false⟩] := Sl.mk (us := [_]) (.cons (tree.tChange.mk (x := ⟨[65], [], false⟩) (show (1 : Nat) < Lim by decide) (show (0 : Nat) < Lim by decide)) .nil) (by have := N262.blk.cells; exact this) trivial N262.blk.lt (by simp) (by simp [Lim]) rfl
    refine .call (first := []) (captured := []) rfl rfl rfl rfl rfl (Turn_fn (d := F100) (l := [⟨[65], [], false⟩]) (allOf (disk.tDisk.ext0 R32 (by repeat (first | exact Ext.refl _ | assumption | refine Ext.trans (by assumption) ?_)))) R262 (hg.ext0 (by repeat (first | exact Ext.refl _ | assumption | refine Ext.trans (by assumption) ?_)))) (by rintro _ _ ⟨_, _, _, _, _, _, _, hx⟩; exact Ext.trans (by repeat (first | exact Ext.refl _ | assumption | refine Ext.trans (by assumption) ?_)) hx) ?_
    rintro _ w263 ⟨v263, Q263, A263, rfl, O263, hQ263, hB263, X263⟩
    have z263 := X263.size
    rw [err_A]
    refine .p rfl rfl rfl (fun wx hx => .mv rfl) ?_
    refine .p rfl rfl rfl (fun wx hx => .extract rfl rfl) ?_
    refine .p rfl rfl rfl (fun wx hx => .extract rfl rfl) ?_
    refine .p rfl rfl rfl (fun wx hx => .as rfl) ?_
    refine .p rfl rfl rfl (fun wx hx => .as rfl) ?_
    refine .nil (.code (.seq (.keep [(26, _), (24, _), (22, _), (1, _), (13, _), (16, _), (19, _)] ⟨rfl, rfl, rfl, rfl, rfl, rfl, rfl, trivial⟩ (.mix (fun _ => False) [1, 2, 3, 4] (by kernel_rfl) (by kernel_rfl) (by kernel_rfl) ?_))))
    refine .p rfl rfl rfl (fun wx hx => .loadA (n := 3) rfl rfl rfl rfl rfl (B1.ext (S := fun _ => False) (Ext.trans (by repeat (first | exact Ext.refl _ | assumption | refine Ext.trans (by assumption) ?_)) hx) (fun x => x)).cells) ?_
    refine .call (first := []) (captured := []) rfl rfl rfl rfl rfl (lawPut_fn) (by rintro _ _ ⟨_, hx⟩; exact Ext.trans (by repeat (first | exact Ext.refl _ | assumption | refine Ext.trans (by assumption) ?_)) hx) ?_
    rintro _ w268 ⟨rfl, X268⟩
    have z268 := X268.size
    refine .call (first := []) (captured := []) rfl rfl rfl rfl rfl (lawPut_fn) (by rintro _ _ ⟨_, hx⟩; exact Ext.trans (by repeat (first | exact Ext.refl _ | assumption | refine Ext.trans (by assumption) ?_)) hx) ?_
    rintro _ w269 ⟨rfl, X269⟩
    have z269 := X269.size
    refine .v rfl rfl rfl (.lits rfl rfl (fun _ => by kernel_rfl)) (by rintro _ _ ⟨_, hN⟩; exact Ext.trans (by repeat (first | exact Ext.refl _ | assumption | refine Ext.trans (by assumption) ?_)) hN.ext) ?_
    rintro _ w270 ⟨rfl, N270⟩
    have X270 := N270.ext
    have z270 := N270.size
    have R270 : (Sl tree.tChange).rep All w270 (.slice _ 2 2) [⟨[97], [], false⟩, ⟨[97], [], false⟩] := Sl.mk (us := [_, _]) (.cons (tree.tChange.mk (x := ⟨[97], [], false⟩) (show (1 : Nat) < Lim by decide) (show (0 : Nat) < Lim by decide)) (.cons (tree.tChange.mk (x := ⟨[97], [], false⟩) (show (1 : Nat) < Lim by decide) (show (0 : Nat) < Lim by decide)) .nil)) (by have := N270.blk.cells; exact this) trivial N270.blk.lt (by simp) (by simp [Lim]) rfl
    refine .call (first := []) (captured := []) rfl rfl rfl rfl rfl (Turn_fn (d := F100) (l := [⟨[97], [], false⟩, ⟨[97], [], false⟩]) (allOf (disk.tDisk.ext0 R32 (by repeat (first | exact Ext.refl _ | assumption | refine Ext.trans (by assumption) ?_)))) R270 (hg.ext0 (by repeat (first | exact Ext.refl _ | assumption | refine Ext.trans (by assumption) ?_)))) (by rintro _ _ ⟨_, _, _, _, _, _, _, hx⟩; exact Ext.trans (by repeat (first | exact Ext.refl _ | assumption | refine Ext.trans (by assumption) ?_)) hx) ?_
    rintro _ w271 ⟨v271, Q271, A271, rfl, O271, hQ271, hB271, X271⟩
    have z271 := X271.size
    rw [err_aa]
    refine .p rfl rfl rfl (fun wx hx => .mv rfl) ?_
    refine .p rfl rfl rfl (fun wx hx => .extract rfl rfl) ?_
    refine .p rfl rfl rfl (fun wx hx => .extract rfl rfl) ?_
    refine .p rfl rfl rfl (fun wx hx => .as rfl) ?_
    refine .p rfl rfl rfl (fun wx hx => .as rfl) ?_
    refine .nil (.code (.seq (.keep [(28, _), (26, _), (24, _), (22, _), (1, _), (13, _), (16, _), (19, _)] ⟨rfl, rfl, rfl, rfl, rfl, rfl, rfl, rfl, trivial⟩ (.mix (fun _ => False) [1, 2, 3, 4] (by kernel_rfl) (by kernel_rfl) (by kernel_rfl) ?_))))
    refine .p rfl rfl rfl (fun wx hx => .loadA (n := 3) rfl rfl rfl rfl rfl (B1.ext (S := fun _ => False) (Ext.trans (by repeat (first | exact Ext.refl _ | assumption | refine Ext.trans (by assumption) ?_)) hx) (fun x => x)).cells) ?_
    refine .call (first := []) (captured := []) rfl rfl rfl rfl rfl (text_fn (n := 2561) (by decide)) (by rintro _ _ ⟨_, hx⟩; exact Ext.trans (by repeat (first | exact Ext.refl _ | assumption | refine Ext.trans (by assumption) ?_)) hx) ?_
    rintro _ w276 ⟨rfl, X276⟩
    have z276 := X276.size
    rw [← hU]
    refine .call (first := []) (captured := []) rfl rfl rfl rfl rfl (lawPut_fn) (by rintro _ _ ⟨_, hx⟩; exact Ext.trans (by repeat (first | exact Ext.refl _ | assumption | refine Ext.trans (by assumption) ?_)) hx) ?_
    rintro _ w277 ⟨rfl, X277⟩
    have z277 := X277.size
    refine .v rfl rfl rfl (.lits rfl rfl (fun _ => by kernel_rfl)) (by rintro _ _ ⟨_, hN⟩; exact Ext.trans (by repeat (first | exact Ext.refl _ | assumption | refine Ext.trans (by assumption) ?_)) hN.ext) ?_
    rintro _ w278 ⟨rfl, N278⟩
    have X278 := N278.ext
    have z278 := N278.size
    have R278 : (Sl tree.tChange).rep All w278 (.slice _ 1 1) [chA U] := Sl.mk (us := [_]) (.cons (tree.tChange.mk (x := chA U) (show (1 : Nat) < Lim by decide) (by rw [show (chA U).value = U from rfl, hUl]; decide)) .nil) (by have := N278.blk.cells; exact this) trivial N278.blk.lt (by simp) (by simp [Lim]) rfl
    refine .call (first := []) (captured := []) rfl rfl rfl rfl rfl (Turn_fn (d := F100) (l := [chA U]) (allOf (disk.tDisk.ext0 R32 (by repeat (first | exact Ext.refl _ | assumption | refine Ext.trans (by assumption) ?_)))) R278 (hg.ext0 (by repeat (first | exact Ext.refl _ | assumption | refine Ext.trans (by assumption) ?_)))) (by rintro _ _ ⟨_, _, _, _, _, _, _, hx⟩; exact Ext.trans (by repeat (first | exact Ext.refl _ | assumption | refine Ext.trans (by assumption) ?_)) hx) ?_
    rintro _ w279 ⟨v279, Q279, A279, rfl, O279, hQ279, hB279, X279⟩
    have z279 := X279.size
    rw [err_30 hUl]
    refine .p rfl rfl rfl (fun wx hx => .mv rfl) ?_
    refine .p rfl rfl rfl (fun wx hx => .extract rfl rfl) ?_
    refine .p rfl rfl rfl (fun wx hx => .extract rfl rfl) ?_
    refine .p rfl rfl rfl (fun wx hx => .as rfl) ?_
    refine .p rfl rfl rfl (fun wx hx => .as rfl) ?_
    refine .nil (.code (.seq (.keep [(30, _), (28, _), (26, _), (24, _), (22, _), (13, _), (16, _), (19, _)] ⟨rfl, rfl, rfl, rfl, rfl, rfl, rfl, rfl, trivial⟩ (.region ?_))))
    refine .p rfl rfl (.mv rfl) ?_
    refine .call (first := []) (captured := []) rfl rfl rfl rfl (filesAlive_fn (hg.ext0 (by repeat (first | exact Ext.refl _ | assumption | refine Ext.trans (by assumption) ?_)))) ?_
    rintro _ w283 ⟨rfl, X283⟩
    have z283 := X283.size
    refine .p rfl rfl (.pickT rfl rfl) ?_
    refine .p rfl rfl (.mv rfl) ?_
    refine .p rfl rfl (.mv rfl) ?_
    refine .p rfl rfl (.pickT rfl rfl) ?_
    refine .p rfl rfl (.mv rfl) ?_
    refine .p rfl rfl (.mv rfl) ?_
    refine .p rfl rfl (.pickT rfl rfl) ?_
    refine .p rfl rfl (.mv rfl) ?_
    refine .p rfl rfl (.mv rfl) ?_
    refine .p rfl rfl (.pickT rfl rfl) ?_
    refine .p rfl rfl (.mv rfl) ?_
    refine .p rfl rfl (.mv rfl) ?_
    refine .p rfl rfl (.pickT rfl rfl) ?_
    refine .p rfl rfl (.mv rfl) ?_
    refine .p rfl rfl (.mv rfl) ?_
    refine .p rfl rfl (.yes (.eq rfl rfl) (rfl)) ?_
    refine .p rfl rfl (.pickT rfl rfl) ?_
    refine .p rfl rfl (.mv rfl) ?_
    refine .p rfl rfl (.mv rfl) ?_
    refine .p rfl rfl (.yes (.eq rfl rfl) (rfl)) ?_
    refine .p rfl rfl (.pickT rfl rfl) ?_
    refine .p rfl rfl (.mv rfl) ?_
    refine .p rfl rfl (.mv rfl) ?_
    refine .p rfl rfl (.yes (.eq rfl rfl) (rfl)) ?_
    refine .p rfl rfl (.pickT rfl rfl) ?_
    refine .p rfl rfl (.mv rfl) ?_
    refine .p rfl rfl (.mv rfl) ?_
    refine .p rfl rfl (.yes (.eq rfl rfl) (rfl)) ?_
    refine .p rfl rfl (.pickT rfl rfl) ?_
    refine .p rfl rfl (.as rfl) ?_
    refine .nil (.code ?_)
    refine .ret _ rfl ?_
    first
      | exact ⟨rfl, (by repeat (first | exact Ext.refl _ | assumption | refine Ext.trans (by assumption) ?_))⟩
  · intro meet
    refine .tree (fun k => w157.heap.size ≤ k) [2, 3, 4, 8, 9] (.op 0 (.op 1 (.alt 2 (.op 2 (.alt 3 (.op 3 (.alt 4 (.op 4 (.op 5 (.op 6 (.op 7 (.alt 8 (.op 8 (.alt 9 (.op 9 (.op 10 (.nil))) (.stop))) (.stop)))))) (.alt 8 (.op 8 (.alt 4 (.op 4 (.op 5 (.op 6 (.op 7 (.alt 9 (.op 9 (.op 10 (.nil))) (.stop)))))) (.stop))) (.stop)))) (.alt 8 (.op 8 (.alt 3 (.op 3 (.alt 4 (.op 4 (.op 5 (.op 6 (.op 7 (.alt 9 (.op 9 (.op 10 (.nil))) (.stop)))))) (.stop))) (.stop))) (.stop)))) (.alt 8 (.op 8 (.alt 2 (.op 2 (.alt 3 (.op 3 (.alt 4 (.op 4 (.op 5 (.op 6 (.op 7 (.alt 9 (.op 9 (.op 10 (.nil))) (.stop)))))) (.stop))) (.stop))) (.stop))) (.stop))))) (by kernel_rfl) (by kernel_rfl) (by kernel_rfl) ?_
    refine .p rfl rfl rfl rfl (fun wx hx => .loadA (n := 3) rfl rfl rfl rfl rfl (B17r.ext hx (by show ¬ (w157.heap.size ≤ w147.heap.size); omega)).cells) ?_
    refine .p rfl rfl rfl rfl (fun wx hx => .build (cs := [str [97], str [], .bool true]) rfl (fun _ => by kernel_rfl)) ?_
    refine .alt ?_ ?_
    · refine .call (first := []) (captured := []) rfl rfl rfl rfl rfl rfl (lawPut_fn) (by rintro _ _ ⟨_, hx⟩; exact (Ext.refl _).trans (hx.mono (fun _ _ h => h.elim))) ?_
      rintro _ w212 ⟨rfl, X212⟩
      have z212 := X212.size
      have hX212 : Ext (fun k => w157.heap.size ≤ k) _ _ := (Ext.refl _).trans (X212.mono (fun _ _ h => h.elim))
      refine .alt ?_ ?_
      · refine .v rfl rfl rfl rfl (.lits rfl rfl (fun _ => by kernel_rfl)) (by rintro _ _ ⟨_, hN⟩; exact hX212.trans hN.ext0) ?_
        rintro _ w213 ⟨rfl, N213⟩
        have R213 : (Sl tree.tChange).rep All w213 (.slice _ 2 2) chsB := Sl.mk (us := [_, _]) (.cons (tree.tChange.mk (x := ⟨[97], [], true⟩) (show (1 : Nat) < Lim by decide) (show (0 : Nat) < Lim by decide)) (.cons (tree.tChange.mk (x := ⟨[98], [], false⟩) (show (1 : Nat) < Lim by decide) (show (0 : Nat) < Lim by decide)) .nil)) (by have := N213.blk.cells; exact this) trivial N213.blk.lt (by simp) (by simp [Lim]) rfl
        have X213 := N213.ext
        have z213 := N213.size
        have hX213 : Ext (fun k => w157.heap.size ≤ k) _ _ := hX212.trans (N213.ext0)
        refine .alt ?_ ?_
        · refine .call (first := []) (captured := []) rfl rfl rfl rfl rfl rfl (turned_fn (d := x) (l := chsB) (P0 := fun k => k < w157.heap.size) (disk.tDisk.ext (disk.tDisk.mono R147r (P' := fun k => k < w157.heap.size) (fun k _ hl => hl)) hX213 (by intro k hk _ he; have he : w157.heap.size ≤ k := he; have hk : k < w157.heap.size := hk; omega)) (by first | exact R213 | exact (Sl tree.tChange).ext0 R213 N20.ext) (hg157.ext hX213 (fun he => by have he : w157.heap.size ≤ _ := he; have := hg157.lt; omega))) (by rintro _ _ ⟨_, _, _, hx⟩; exact hX213.trans (hx.mono (fun _ _ h => h.elim))) ?_
          rintro _ w214 ⟨v214, rfl, R214, X214⟩
          have z214 := X214.size
          rw [hy1] at R214 ⊢
          obtain ⟨a23, k23, a24, k24, rfl⟩ := diskShape R214
          have hX214 : Ext (fun k => w157.heap.size ≤ k) _ _ := hX213.trans (X214.mono (fun _ _ h => h.elim))
          refine .p rfl rfl rfl rfl (fun wx hx => .mv rfl) ?_
          refine .p rfl rfl rfl rfl (fun wx hx => .extract rfl rfl) ?_
          refine .p rfl rfl rfl rfl (fun wx hx => .extract rfl rfl) ?_
          refine .alt ?_ ?_
          · refine .v rfl rfl rfl rfl (.alloc rfl rfl) (by rintro _ _ ⟨_, hN⟩; exact hX214.trans hN.ext0) ?_
            rintro _ w20 ⟨rfl, N20⟩
            have X20 := N20.ext
            have z20 := N20.size
            have hX20 : Ext (fun k => w157.heap.size ≤ k) _ _ := hX214.trans (N20.ext0)
            refine .alt ?_ ?_
            · refine .s rfl rfl rfl (.storeAll (n := 3) (E := 44) (cs := [i64 0, .slice none 0 0, .slice none 0 0]) rfl rfl rfl rfl rfl (by first | exact N20.blk | exact N20.blk.ext (S := fun _ => False) (by repeat (first | exact Ext.refl _ | assumption | refine Ext.trans (by assumption) ?_)) (fun x => x)) rfl) (by intro wz hP; exact hX20.trans (hP.ext.mono (by rintro k _ rfl; show w157.heap.size ≤ _; omega))) ?_
              intro ws P20
              have hXs9 : Ext (fun k => w157.heap.size ≤ k) _ _ := hX20.trans (P20.ext.mono (by rintro k _ rfl; show w157.heap.size ≤ _; omega))
              refine .p rfl rfl rfl rfl (fun wx hx => .as rfl) ?_
              refine .nil ?_
              have zs := P20.size
              exact (meet (w214.heap.size, (a23, k23, a24, k24), ws) ⟨P20.blk, allOf (disk.tDisk.ext (disk.tDisk.ext0 (disk.tDisk.mono R214 (P' := fun k => (k < w214.heap.size ∧ True) ∨ False) (fun k _ hl => .inl ⟨hl, trivial⟩)) N20.ext) P20.ext (fun k hk _ he => by have he : k = w214.heap.size := he; rcases hk with ⟨hk, _⟩ | hk <;> first | omega | exact hk.elim)), (Ext.refl w157).then hXs9 (fun k hk _ => hk)⟩).of ⟨rfl, rfl, rfl, rfl, rfl, rfl, rfl, trivial⟩
            exact .stop
          exact .stop
        refine .alt ?_ ?_
        · refine .v rfl rfl rfl rfl (.alloc rfl rfl) (by rintro _ _ ⟨_, hN⟩; exact hX213.trans hN.ext0) ?_
          rintro _ w20 ⟨rfl, N20⟩
          have X20 := N20.ext
          have z20 := N20.size
          have hX20 : Ext (fun k => w157.heap.size ≤ k) _ _ := hX213.trans (N20.ext0)
          refine .alt ?_ ?_
          · refine .call (first := []) (captured := []) rfl rfl rfl rfl rfl rfl (turned_fn (d := x) (l := chsB) (P0 := fun k => k < w157.heap.size) (disk.tDisk.ext (disk.tDisk.mono R147r (P' := fun k => k < w157.heap.size) (fun k _ hl => hl)) hX20 (by intro k hk _ he; have he : w157.heap.size ≤ k := he; have hk : k < w157.heap.size := hk; omega)) (by first | exact R213 | exact (Sl tree.tChange).ext0 R213 N20.ext) (hg157.ext hX20 (fun he => by have he : w157.heap.size ≤ _ := he; have := hg157.lt; omega))) (by rintro _ _ ⟨_, _, _, hx⟩; exact hX20.trans (hx.mono (fun _ _ h => h.elim))) ?_
            rintro _ w214 ⟨v214, rfl, R214, X214⟩
            have z214 := X214.size
            rw [hy1] at R214 ⊢
            obtain ⟨a23, k23, a24, k24, rfl⟩ := diskShape R214
            have hX214 : Ext (fun k => w157.heap.size ≤ k) _ _ := hX20.trans (X214.mono (fun _ _ h => h.elim))
            refine .p rfl rfl rfl rfl (fun wx hx => .mv rfl) ?_
            refine .p rfl rfl rfl rfl (fun wx hx => .extract rfl rfl) ?_
            refine .p rfl rfl rfl rfl (fun wx hx => .extract rfl rfl) ?_
            refine .alt ?_ ?_
            · refine .s rfl rfl rfl (.storeAll (n := 3) (E := 44) (cs := [i64 0, .slice none 0 0, .slice none 0 0]) rfl rfl rfl rfl rfl (by first | exact N20.blk | exact N20.blk.ext (S := fun _ => False) (by repeat (first | exact Ext.refl _ | assumption | refine Ext.trans (by assumption) ?_)) (fun x => x)) rfl) (by intro wz hP; exact hX214.trans (hP.ext.mono (by rintro k _ rfl; show w157.heap.size ≤ _; omega))) ?_
              intro ws P20
              have hXs9 : Ext (fun k => w157.heap.size ≤ k) _ _ := hX214.trans (P20.ext.mono (by rintro k _ rfl; show w157.heap.size ≤ _; omega))
              refine .p rfl rfl rfl rfl (fun wx hx => .as rfl) ?_
              refine .nil ?_
              have zs := P20.size
              exact (meet (w213.heap.size, (a23, k23, a24, k24), ws) ⟨P20.blk, allOf (disk.tDisk.ext (R214) P20.ext (fun k hk _ he => by have he : k = w213.heap.size := he; rcases hk with ⟨hk, _⟩ | hk <;> first | omega | exact hk.elim)), (Ext.refl w157).then hXs9 (fun k hk _ => hk)⟩).of ⟨rfl, rfl, rfl, rfl, rfl, rfl, rfl, trivial⟩
            exact .stop
          exact .stop
        exact .stop
      refine .alt ?_ ?_
      · refine .v rfl rfl rfl rfl (.alloc rfl rfl) (by rintro _ _ ⟨_, hN⟩; exact hX212.trans hN.ext0) ?_
        rintro _ w20 ⟨rfl, N20⟩
        have X20 := N20.ext
        have z20 := N20.size
        have hX20 : Ext (fun k => w157.heap.size ≤ k) _ _ := hX212.trans (N20.ext0)
        refine .alt ?_ ?_
        · refine .v rfl rfl rfl rfl (.lits rfl rfl (fun _ => by kernel_rfl)) (by rintro _ _ ⟨_, hN⟩; exact hX20.trans hN.ext0) ?_
          rintro _ w213 ⟨rfl, N213⟩
          have R213 : (Sl tree.tChange).rep All w213 (.slice _ 2 2) chsB := Sl.mk (us := [_, _]) (.cons (tree.tChange.mk (x := ⟨[97], [], true⟩) (show (1 : Nat) < Lim by decide) (show (0 : Nat) < Lim by decide)) (.cons (tree.tChange.mk (x := ⟨[98], [], false⟩) (show (1 : Nat) < Lim by decide) (show (0 : Nat) < Lim by decide)) .nil)) (by have := N213.blk.cells; exact this) trivial N213.blk.lt (by simp) (by simp [Lim]) rfl
          have X213 := N213.ext
          have z213 := N213.size
          have hX213 : Ext (fun k => w157.heap.size ≤ k) _ _ := hX20.trans (N213.ext0)
          refine .alt ?_ ?_
          · refine .call (first := []) (captured := []) rfl rfl rfl rfl rfl rfl (turned_fn (d := x) (l := chsB) (P0 := fun k => k < w157.heap.size) (disk.tDisk.ext (disk.tDisk.mono R147r (P' := fun k => k < w157.heap.size) (fun k _ hl => hl)) hX213 (by intro k hk _ he; have he : w157.heap.size ≤ k := he; have hk : k < w157.heap.size := hk; omega)) (by first | exact R213 | exact (Sl tree.tChange).ext0 R213 N20.ext) (hg157.ext hX213 (fun he => by have he : w157.heap.size ≤ _ := he; have := hg157.lt; omega))) (by rintro _ _ ⟨_, _, _, hx⟩; exact hX213.trans (hx.mono (fun _ _ h => h.elim))) ?_
            rintro _ w214 ⟨v214, rfl, R214, X214⟩
            have z214 := X214.size
            rw [hy1] at R214 ⊢
            obtain ⟨a23, k23, a24, k24, rfl⟩ := diskShape R214
            have hX214 : Ext (fun k => w157.heap.size ≤ k) _ _ := hX213.trans (X214.mono (fun _ _ h => h.elim))
            refine .p rfl rfl rfl rfl (fun wx hx => .mv rfl) ?_
            refine .p rfl rfl rfl rfl (fun wx hx => .extract rfl rfl) ?_
            refine .p rfl rfl rfl rfl (fun wx hx => .extract rfl rfl) ?_
            refine .alt ?_ ?_
            · refine .s rfl rfl rfl (.storeAll (n := 3) (E := 44) (cs := [i64 0, .slice none 0 0, .slice none 0 0]) rfl rfl rfl rfl rfl (by first | exact N20.blk | exact N20.blk.ext (S := fun _ => False) (by repeat (first | exact Ext.refl _ | assumption | refine Ext.trans (by assumption) ?_)) (fun x => x)) rfl) (by intro wz hP; exact hX214.trans (hP.ext.mono (by rintro k _ rfl; show w157.heap.size ≤ _; omega))) ?_
              intro ws P20
              have hXs9 : Ext (fun k => w157.heap.size ≤ k) _ _ := hX214.trans (P20.ext.mono (by rintro k _ rfl; show w157.heap.size ≤ _; omega))
              refine .p rfl rfl rfl rfl (fun wx hx => .as rfl) ?_
              refine .nil ?_
              have zs := P20.size
              exact (meet (w212.heap.size, (a23, k23, a24, k24), ws) ⟨P20.blk, allOf (disk.tDisk.ext (R214) P20.ext (fun k hk _ he => by have he : k = w212.heap.size := he; rcases hk with ⟨hk, _⟩ | hk <;> first | omega | exact hk.elim)), (Ext.refl w157).then hXs9 (fun k hk _ => hk)⟩).of ⟨rfl, rfl, rfl, rfl, rfl, rfl, rfl, trivial⟩
            exact .stop
          exact .stop
        exact .stop
      exact .stop
    refine .alt ?_ ?_
    · refine .v rfl rfl rfl rfl (.alloc rfl rfl) (by rintro _ _ ⟨_, hN⟩; exact (Ext.refl _).trans hN.ext0) ?_
      rintro _ w20 ⟨rfl, N20⟩
      have X20 := N20.ext
      have z20 := N20.size
      have hX20 : Ext (fun k => w157.heap.size ≤ k) _ _ := (Ext.refl _).trans (N20.ext0)
      refine .alt ?_ ?_
      · refine .call (first := []) (captured := []) rfl rfl rfl rfl rfl rfl (lawPut_fn) (by rintro _ _ ⟨_, hx⟩; exact hX20.trans (hx.mono (fun _ _ h => h.elim))) ?_
        rintro _ w212 ⟨rfl, X212⟩
        have z212 := X212.size
        have hX212 : Ext (fun k => w157.heap.size ≤ k) _ _ := hX20.trans (X212.mono (fun _ _ h => h.elim))
        refine .alt ?_ ?_
        · refine .v rfl rfl rfl rfl (.lits rfl rfl (fun _ => by kernel_rfl)) (by rintro _ _ ⟨_, hN⟩; exact hX212.trans hN.ext0) ?_
          rintro _ w213 ⟨rfl, N213⟩
          have R213 : (Sl tree.tChange).rep All w213 (.slice _ 2 2) chsB := Sl.mk (us := [_, _]) (.cons (tree.tChange.mk (x := ⟨[97], [], true⟩) (show (1 : Nat) < Lim by decide) (show (0 : Nat) < Lim by decide)) (.cons (tree.tChange.mk (x := ⟨[98], [], false⟩) (show (1 : Nat) < Lim by decide) (show (0 : Nat) < Lim by decide)) .nil)) (by have := N213.blk.cells; exact this) trivial N213.blk.lt (by simp) (by simp [Lim]) rfl
          have X213 := N213.ext
          have z213 := N213.size
          have hX213 : Ext (fun k => w157.heap.size ≤ k) _ _ := hX212.trans (N213.ext0)
          refine .alt ?_ ?_
          · refine .call (first := []) (captured := []) rfl rfl rfl rfl rfl rfl (turned_fn (d := x) (l := chsB) (P0 := fun k => k < w157.heap.size) (disk.tDisk.ext (disk.tDisk.mono R147r (P' := fun k => k < w157.heap.size) (fun k _ hl => hl)) hX213 (by intro k hk _ he; have he : w157.heap.size ≤ k := he; have hk : k < w157.heap.size := hk; omega)) (by first | exact R213 | exact (Sl tree.tChange).ext0 R213 N20.ext) (hg157.ext hX213 (fun he => by have he : w157.heap.size ≤ _ := he; have := hg157.lt; omega))) (by rintro _ _ ⟨_, _, _, hx⟩; exact hX213.trans (hx.mono (fun _ _ h => h.elim))) ?_
            rintro _ w214 ⟨v214, rfl, R214, X214⟩
            have z214 := X214.size
            rw [hy1] at R214 ⊢
            obtain ⟨a23, k23, a24, k24, rfl⟩ := diskShape R214
            have hX214 : Ext (fun k => w157.heap.size ≤ k) _ _ := hX213.trans (X214.mono (fun _ _ h => h.elim))
            refine .p rfl rfl rfl rfl (fun wx hx => .mv rfl) ?_
            refine .p rfl rfl rfl rfl (fun wx hx => .extract rfl rfl) ?_
            refine .p rfl rfl rfl rfl (fun wx hx => .extract rfl rfl) ?_
            refine .alt ?_ ?_
            · refine .s rfl rfl rfl (.storeAll (n := 3) (E := 44) (cs := [i64 0, .slice none 0 0, .slice none 0 0]) rfl rfl rfl rfl rfl (by first | exact N20.blk | exact N20.blk.ext (S := fun _ => False) (by repeat (first | exact Ext.refl _ | assumption | refine Ext.trans (by assumption) ?_)) (fun x => x)) rfl) (by intro wz hP; exact hX214.trans (hP.ext.mono (by rintro k _ rfl; show w157.heap.size ≤ _; omega))) ?_
              intro ws P20
              have hXs9 : Ext (fun k => w157.heap.size ≤ k) _ _ := hX214.trans (P20.ext.mono (by rintro k _ rfl; show w157.heap.size ≤ _; omega))
              refine .p rfl rfl rfl rfl (fun wx hx => .as rfl) ?_
              refine .nil ?_
              have zs := P20.size
              exact (meet (w157.heap.size, (a23, k23, a24, k24), ws) ⟨P20.blk, allOf (disk.tDisk.ext (R214) P20.ext (fun k hk _ he => by have he : k = w157.heap.size := he; rcases hk with ⟨hk, _⟩ | hk <;> first | omega | exact hk.elim)), (Ext.refl w157).then hXs9 (fun k hk _ => hk)⟩).of ⟨rfl, rfl, rfl, rfl, rfl, rfl, rfl, trivial⟩
            exact .stop
          exact .stop
        exact .stop
      exact .stop
    exact .stop
end Go.Proofs.YtpfehnopghffjaaGreatDoor
