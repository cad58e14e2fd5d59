/-
  FilesRoom: what is free and what files have are all sectors from 80 on.
-/
import Derived.Test.YtpfehnopghffjaaGreatDoorQFDone
set_option linter.unusedVariables false
set_option linter.unusedSimpArgs false
set_option maxRecDepth 20000
namespace Go.Proofs.YtpfehnopghffjaaGreatDoor
open Go
open room files
attribute [local irreducible] mountF roomF turnedF disk.doF
theorem FilesRoom_fn {w : World} {v : Value} {d : Disk} {name : Bs} (h : disk.tDisk.rep All w v d) (hs : name.length < Lim) (hg : GOK w) : Fn Tryz.prog 9 [v, str name] w (fun r w2 => r = .bool true ∧ Ext (fun _ => False) w w2) := by
  have R3 := disk.tDisk.mono h (P' := fun k => k < w.heap.size) (fun k _ h => h)
  obtain ⟨u1, q1, u2, q2, rfl⟩ := diskShape h
  have hs2 := hs
  simp only [Lim] at hs2
  refine Fn.enter (fun w => Tryz.call9 _ w) Tryz.func9 rfl ?_
  refine .seq (.region ?_)
  refine .v rfl rfl (.box rfl) ?_
  rintro _ w2 ⟨rfl, N2⟩
  have B2 := N2.blk
  have X2 := N2.ext
  have z2 := N2.size
  refine .p rfl rfl (.as rfl) ?_
  refine .nil (.code (.seq (.keep [(2, _), (1, _)] ⟨rfl, rfl, trivial⟩ (.region ?_))))
  refine .call (first := []) (captured := []) rfl rfl rfl rfl (filesAlive_fn (hg.ext0 (by repeat (first | exact Ext.refl _ | assumption | refine Ext.trans (by assumption) ?_)))) ?_
  rintro _ w17 ⟨rfl, X17⟩
  have z17 := X17.size
  refine .p rfl rfl (.as rfl) ?_
  refine .nil (.code (.seq (.seq (.keep [(5, _), (2, _), (1, _)] ⟨rfl, rfl, rfl, trivial⟩ (.region ?_)))))
  refine .p rfl rfl (.mv rfl) ?_
  refine .p rfl rfl (.not rfl) ?_
  refine .nil (.code (.keep [(19, _), (5, _), (2, _), (1, _)] ⟨rfl, rfl, rfl, rfl, trivial⟩ (.condF rfl (.skip (.code (.seq (.seq (.keep [(5, _), (2, _), (1, _)] ⟨rfl, rfl, rfl, trivial⟩ (.region ?_)))))))))
  refine .p rfl rfl (.loadA (n := 3) rfl rfl rfl rfl rfl (B2.ext (S := fun _ => False) (by repeat (first | exact Ext.refl _ | assumption | refine Ext.trans (by assumption) ?_)) (fun x => x)).cells) ?_
  refine .call (first := []) (captured := []) rfl rfl rfl rfl (filesLarge_fn (allOf (disk.tDisk.ext0 R3 (by repeat (first | exact Ext.refl _ | assumption | refine Ext.trans (by assumption) ?_))))) ?_
  rintro _ w21 ⟨rfl, X21⟩
  have z21 := X21.size
  refine .p rfl rfl (.mv rfl) ?_
  refine .case 22 rfl (fun c22 => ?_) (fun c22 => ?_)
  · refine .skip rfl rfl ?_
    refine .skip rfl rfl ?_
    refine .skip rfl rfl ?_
    refine .p rfl rfl (.pickT rfl rfl) ?_
    refine .nil (.code (.keep [(26, _), (5, _), (2, _), (1, _)] ⟨rfl, rfl, rfl, rfl, trivial⟩ (.condT rfl (.seq (.keep [(5, _)] ⟨rfl, trivial⟩ (.region ?_))))))
    refine .p rfl rfl (.mv rfl) ?_
    refine .p rfl rfl (.as rfl) ?_
    refine .nil (.code ?_)
    refine .ret _ rfl ?_
    first
      | exact ⟨rfl, (by repeat (first | exact Ext.refl _ | assumption | refine Ext.trans (by assumption) ?_))⟩
  · refine .p rfl rfl (.mv rfl) ?_
    refine .p rfl rfl (.lenS rfl rfl) ?_
    refine .p rfl rfl (.gt rfl rfl) ?_
    refine .p rfl rfl (.pickF rfl rfl) ?_
    refine .nil (.code (.keep [(26, _), (5, _), (2, _), (1, _)] ⟨rfl, rfl, rfl, rfl, trivial⟩ ?_))
    refine .condD rfl (fun c26 => ?_) (fun c26 => ?_)
    · refine .seq (.keep [(5, _)] ⟨rfl, trivial⟩ (.region ?_))
      refine .p rfl rfl (.mv rfl) ?_
      refine .p rfl rfl (.as rfl) ?_
      refine .nil (.code ?_)
      refine .ret _ rfl ?_
      first
        | exact ⟨rfl, (by repeat (first | exact Ext.refl _ | assumption | refine Ext.trans (by assumption) ?_))⟩
    · refine .skip (.code (.seq (.keep [(5, _), (2, _), (1, _)] ⟨rfl, rfl, rfl, trivial⟩ (.region ?_))))
      refine .p rfl rfl (.loadA (n := 3) rfl rfl rfl rfl rfl (B2.ext (S := fun _ => False) (by repeat (first | exact Ext.refl _ | assumption | refine Ext.trans (by assumption) ?_)) (fun x => x)).cells) ?_
      refine .call (first := []) (captured := []) rfl rfl rfl rfl (Mount_fn (d := d) (allOf (disk.tDisk.ext0 R3 (by repeat (first | exact Ext.refl _ | assumption | refine Ext.trans (by assumption) ?_)))) (hg.ext0 (by repeat (first | exact Ext.refl _ | assumption | refine Ext.trans (by assumption) ?_)))) ?_
      rintro _ w30 ⟨u30, rfl, R30, X30⟩
      have z30 := X30.size
      obtain ⟨af, kf, rfl, hf, hgen⟩ := tDir.val R30
      refine .p rfl rfl (.mv rfl) ?_
      refine .p rfl rfl (.extract rfl rfl) ?_
      refine .p rfl rfl (.extract rfl rfl) ?_
      refine .v rfl rfl (.alloc rfl rfl) ?_
      rintro _ wn6 ⟨rfl, N6⟩
      refine .s rfl (.storeAll (n := 2) rfl rfl rfl rfl rfl N6.blk rfl) ?_
      intro w6 P6
      have Y6 := N6.ext.then P6.ext (by rintro k rfl _; exact Nat.le_refl _)
      have zy6 := Y6.size
      have B6 := P6.blk
      clear P6 N6
      refine .p rfl rfl (.as rfl) ?_
      refine .nil (.code (.seq (.seq (.keep [(7, _), (6, _), (5, _), (2, _), (1, _)] ⟨rfl, rfl, rfl, rfl, rfl, trivial⟩ (.region ?_)))))
      refine .p rfl rfl (.mv rfl) ?_
      refine .p rfl rfl (.ne rfl rfl) ?_
      refine .nil (.code (.keep [(34, _), (6, _), (5, _), (2, _), (1, _)] ⟨rfl, rfl, rfl, rfl, rfl, trivial⟩ ?_))
      refine .condD rfl (fun c34 => ?_) (fun c34 => ?_)
      · refine .seq (.keep [(5, _)] ⟨rfl, trivial⟩ (.region ?_))
        refine .p rfl rfl (.mv rfl) ?_
        refine .p rfl rfl (.as rfl) ?_
        refine .nil (.code ?_)
        refine .ret _ rfl ?_
        first
          | exact ⟨rfl, (by repeat (first | exact Ext.refl _ | assumption | refine Ext.trans (by assumption) ?_))⟩
      · have hm : (mountF d).2.2 = 0 := Decidable.not_not.1 c34
        obtain ⟨hck, h96, h32, hmay, hckr, hup⟩ := mount_may hm
        have hc4 := (check_ok hckr).2.1
        have hrt := room_total hm
        rw [may_all hmay] at hrt
        have hsz : ∀ f ∈ (mountF d).1.fs, 0 ≤ f.size ∧ f.size ≤ 524288 := fun f hf => by obtain ⟨i, hi, rfl⟩ := List.getElem_of_mem hf; have := hmay.2.2.2 i hi; exact ⟨this.2.2.1, this.2.2.2.1⟩
        have hsd := small_done hck (show files.largeL d = false by assumption)
        have hsA := sumS_bd hsz
        refine .skip (.code (.seq (.keep [(6, _), (5, _), (2, _), (1, _)] ⟨rfl, rfl, rfl, rfl, trivial⟩ (.region ?_))))
        refine .p rfl rfl (.loadA (n := 3) rfl rfl rfl rfl rfl (B2.ext (S := fun _ => False) (by repeat (first | exact Ext.refl _ | assumption | refine Ext.trans (by assumption) ?_)) (fun x => x)).cells) ?_
        refine .call (first := []) (captured := []) rfl rfl rfl rfl (Room_fn (d := d) (allOf (disk.tDisk.ext0 R3 (by repeat (first | exact Ext.refl _ | assumption | refine Ext.trans (by assumption) ?_)))) (hg.ext0 (by repeat (first | exact Ext.refl _ | assumption | refine Ext.trans (by assumption) ?_)))) ?_
        rintro _ w38 ⟨rfl, X38⟩
        have z38 := X38.size
        rw [hrt]
        refine .p rfl rfl (.mv rfl) ?_
        refine .p rfl rfl (.extract rfl rfl) ?_
        refine .p rfl rfl (.extract rfl rfl) ?_
        refine .p rfl rfl (.as rfl) ?_
        refine .p rfl rfl (.as rfl) ?_
        refine .nil (.code (.seq (.keep [(9, _), (8, _), (6, _), (5, _), (2, _), (1, _)] ⟨rfl, rfl, rfl, rfl, rfl, rfl, trivial⟩ (.region ?_))))
        refine .p rfl rfl (.as rfl) ?_
        refine .nil (.code (.seq (.region ?_)))
        refine .p rfl rfl (.as rfl) ?_
        refine .nil (.code (.seq (.seq (.region ?_))))
        refine .p rfl rfl (.as rfl) ?_
        refine .nil (.code (.block ?_))
        refine .loop (S := Nat) (fun s => [(1, str name), (2, .pointer (some ⟨w.heap.size, 0, none⟩)), (5, .bool true), (6, .pointer (some ⟨w30.heap.size, 0, none⟩)), (8, i64 (d.count - 80 - sumS (mountF d).1.fs)), (9, i64 0), (10, i64 (sumS ((mountF d).1.fs.take s))), (11, i64 (goneL name (-1) ((mountF d).1.fs.take s))), (12, i64 s)]) (fun s => w38) (fun s => s ≤ (mountF d).1.fs.length) (fun s => (mountF d).1.fs.length - s) 0 ⟨rfl, rfl, rfl, rfl, rfl, rfl, rfl, rfl, rfl, trivial⟩ rfl (Nat.zero_le _) ?_
        rintro i J hi' again
        refine .seq (.seq (.region ?_))
        refine .p rfl rfl (.mv rfl) ?_
        refine .p rfl rfl (.fieldAddr rfl rfl rfl rfl) ?_
        refine .p rfl rfl (.load rfl rfl rfl ((B6.ext (S := fun _ => False) (by repeat (first | exact Ext.refl _ | assumption | refine Ext.trans (by assumption) ?_)) (fun x => x)).cell 1)) ?_
        refine .p rfl rfl (.len rfl rfl) ?_
        refine .p rfl rfl (.lt rfl rfl) ?_
        refine .nil (.code (.keep [(45, _), (1, _), (2, _), (5, _), (6, _), (8, _), (9, _), (10, _), (11, _), (12, _)] ⟨rfl, rfl, rfl, rfl, rfl, rfl, rfl, rfl, rfl, rfl, trivial⟩ ?_))
        refine .condD rfl (fun c45 => ?_) (fun c45 => ?_)
        · have hi : i < (mountF d).1.fs.length := by omega
          obtain ⟨b1, o1, q1', ue1, e1, _, hcs, hre⟩ := Sl.at hf (List.getElem?_eq_getElem hi)
          cases e1
          obtain ⟨fa1, fc1, rfl, hps, hnm1, hsz1⟩ := tFile.val hre
          have hszi := hsz _ (List.getElem_mem hi)
          refine .skip (.code (.seq (.block (.seq (.keep [(1, _), (2, _), (5, _), (6, _), (8, _), (9, _), (10, _), (11, _), (12, _)] ⟨rfl, rfl, rfl, rfl, rfl, rfl, rfl, rfl, rfl, trivial⟩ (.region ?_))))))
          refine .p rfl rfl (.mv rfl) ?_
          refine .p rfl rfl (.fieldAddr rfl rfl rfl rfl) ?_
          refine .p rfl rfl (.load rfl rfl rfl ((B6.ext (S := fun _ => False) (by repeat (first | exact Ext.refl _ | assumption | refine Ext.trans (by assumption) ?_)) (fun x => x)).cell 1)) ?_
          refine .p rfl rfl (.mv rfl) ?_
          refine .p rfl rfl (.indexAddr (s := 3) rfl rfl rfl rfl (by omega)) ?_
          refine .p rfl rfl (.fieldAddr rfl rfl rfl rfl) ?_
          refine .p rfl rfl (.load rfl rfl rfl (hcs.ext (S := fun _ => False) (by repeat (first | exact Ext.refl _ | assumption | refine Ext.trans (by assumption) ?_)) (fun x => x) 1 _ rfl)) ?_
          refine .p rfl rfl (.add rfl rfl (by omega)) ?_
          refine .p rfl rfl (.quo rfl rfl (by omega)) ?_
          refine .p rfl rfl (.add rfl rfl (by rw [show ((mountF d).1.fs[i].size + 127) / 128 = needF (mountF d).1.fs[i].size from rfl]; have hsb := sumS_bd (l := (mountF d).1.fs.take i) (fun f hf => hsz f (List.mem_of_mem_take hf)); rw [List.length_take] at hsb; unfold needF; omega)) ?_
          refine .p rfl rfl (.as rfl) ?_
          refine .nil (.code (.seq (.keep [(10, _), (1, _), (2, _), (5, _), (6, _), (8, _), (9, _), (11, _), (12, _)] ⟨rfl, rfl, rfl, rfl, rfl, rfl, rfl, rfl, rfl, trivial⟩ (.region ?_))))
          refine .p rfl rfl (.fieldAddr rfl rfl rfl rfl) ?_
          refine .p rfl rfl (.load rfl rfl rfl ((B6.ext (S := fun _ => False) (by repeat (first | exact Ext.refl _ | assumption | refine Ext.trans (by assumption) ?_)) (fun x => x)).cell 1)) ?_
          refine .p rfl rfl (.mv rfl) ?_
          refine .p rfl rfl (.indexAddr (s := 3) rfl rfl rfl rfl (by omega)) ?_
          refine .p rfl rfl (.fieldAddr rfl rfl rfl rfl) ?_
          refine .p rfl rfl (.load rfl rfl rfl (hcs.ext (S := fun _ => False) (by repeat (first | exact Ext.refl _ | assumption | refine Ext.trans (by assumption) ?_)) (fun x => x) 0 _ rfl)) ?_
          refine .p rfl rfl (.mv rfl) ?_
          refine .p rfl rfl (.eqS rfl rfl) ?_
          refine .nil (.code (.keep [(65, _), (10, _), (1, _), (2, _), (5, _), (6, _), (8, _), (9, _), (11, _), (12, _)] ⟨rfl, rfl, rfl, rfl, rfl, rfl, rfl, rfl, rfl, rfl, trivial⟩ ?_))
          refine .condD rfl (fun c65 => ?_) (fun c65 => ?_)
          · refine .keep [(10, _), (1, _), (2, _), (5, _), (6, _), (8, _), (9, _), (12, _)] ⟨rfl, rfl, rfl, rfl, rfl, rfl, rfl, rfl, trivial⟩ (.region ?_)
            refine .p rfl rfl (.fieldAddr rfl rfl rfl rfl) ?_
            refine .p rfl rfl (.load rfl rfl rfl ((B6.ext (S := fun _ => False) (by repeat (first | exact Ext.refl _ | assumption | refine Ext.trans (by assumption) ?_)) (fun x => x)).cell 1)) ?_
            refine .p rfl rfl (.mv rfl) ?_
            refine .p rfl rfl (.indexAddr (s := 3) rfl rfl rfl rfl (by omega)) ?_
            refine .p rfl rfl (.fieldAddr rfl rfl rfl rfl) ?_
            refine .p rfl rfl (.load rfl rfl rfl (hcs.ext (S := fun _ => False) (by repeat (first | exact Ext.refl _ | assumption | refine Ext.trans (by assumption) ?_)) (fun x => x) 1 _ rfl)) ?_
            refine .p rfl rfl (.add rfl rfl (by omega)) ?_
            refine .p rfl rfl (.quo rfl rfl (by omega)) ?_
            refine .p rfl rfl (.as rfl) ?_
            refine .nil (.blk (.code (.keep [(11, _), (10, _), (1, _), (2, _), (5, _), (6, _), (8, _), (9, _), (12, _)] ⟨rfl, rfl, rfl, rfl, rfl, rfl, rfl, rfl, rfl, trivial⟩ (.region ?_))))
            refine .p rfl rfl (.mv rfl) ?_
            refine .p rfl rfl (.add rfl rfl (by omega)) ?_
            refine .p rfl rfl (.as rfl) ?_
            refine .nil ?_
            exact (again (i + 1) (by show i + 1 ≤ _; omega) (by show _ - (i + 1) < _ - i; omega)).of ⟨rfl, rfl, rfl, rfl, rfl, rfl, by rw [sumS_step hi]; rfl, by rw [goneL_step hi, if_pos c65]; rfl, rfl, trivial⟩
          · refine .skip (.blk (.code (.keep [(10, _), (1, _), (2, _), (5, _), (6, _), (8, _), (9, _), (11, _), (12, _)] ⟨rfl, rfl, rfl, rfl, rfl, rfl, rfl, rfl, rfl, trivial⟩ (.region ?_))))
            refine .p rfl rfl (.mv rfl) ?_
            refine .p rfl rfl (.add rfl rfl (by omega)) ?_
            refine .p rfl rfl (.as rfl) ?_
            refine .nil ?_
            exact (again (i + 1) (by show i + 1 ≤ _; omega) (by show _ - (i + 1) < _ - i; omega)).of ⟨rfl, rfl, rfl, rfl, rfl, rfl, by rw [sumS_step hi]; rfl, by rw [goneL_step hi, if_neg c65]; rfl, rfl, trivial⟩
        · obtain rfl : i = (mountF d).1.fs.length := by omega
          rw [List.take_length]
          refine .exit rfl (.code (.seq (.seq (.keep [(1, _), (2, _), (5, _), (8, _), (9, _), (10, _), (11, _)] ⟨rfl, rfl, rfl, rfl, rfl, rfl, rfl, trivial⟩ (.region ?_)))))
          refine .p rfl rfl (.mv rfl) ?_
          refine .p rfl rfl (.no (.ne rfl rfl) (fun h => h rfl)) ?_
          refine .p rfl rfl (.mv rfl) ?_
          refine .p rfl rfl (.mv rfl) ?_
          refine .p rfl rfl (.mv rfl) ?_
          refine .p rfl rfl (.add rfl rfl (by omega)) ?_
          refine .p rfl rfl (.fieldAddr rfl rfl rfl rfl) ?_
          refine .p rfl rfl (.load rfl rfl rfl ((B2.ext (S := fun _ => False) (by repeat (first | exact Ext.refl _ | assumption | refine Ext.trans (by assumption) ?_)) (fun x => x)).cell 0)) ?_
          refine .p rfl rfl (.sub rfl rfl (by omega)) ?_
          refine .p rfl rfl (.no (.ne rfl rfl) (fun h => h (by omega))) ?_
          refine .p rfl rfl (.pickF rfl rfl) ?_
          refine .nil (.code (.keep [(84, _), (1, _), (2, _), (5, _), (8, _), (11, _)] ⟨rfl, rfl, rfl, rfl, rfl, rfl, trivial⟩ (.condF rfl (.skip (.code (.seq (.keep [(1, _), (2, _), (5, _), (8, _), (11, _)] ⟨rfl, rfl, rfl, rfl, rfl, trivial⟩ (.region ?_))))))))
          refine .p rfl rfl (.loadA (n := 3) rfl rfl rfl rfl rfl (B2.ext (S := fun _ => False) (by repeat (first | exact Ext.refl _ | assumption | refine Ext.trans (by assumption) ?_)) (fun x => x)).cells) ?_
          refine .p rfl rfl (.mv rfl) ?_
          refine .p rfl rfl (.build (cs := [str name, str [], .bool true]) rfl (fun _ => by kernel_rfl)) ?_
          refine .v rfl rfl (.lits rfl rfl (fun _ => by kernel_rfl)) ?_
          rintro _ w89 ⟨rfl, N89⟩
          have X89 := N89.ext
          have z89 := N89.size
          have R89 : (Sl tree.tChange).rep All w89 (.slice _ 1 1) [⟨name, [], true⟩] := Sl.mk (us := [_]) (.cons (tree.tChange.mk (x := ⟨name, [], true⟩) hs (show (0 : Nat) < Lim by decide)) .nil) (by have := N89.blk.cells; exact this) trivial N89.blk.lt (by simp) (by simp [Lim]) rfl
          refine .call (first := []) (captured := []) rfl rfl rfl rfl (turned_fn (d := d) (l := [⟨name, [], true⟩]) (P0 := fun k => k < w.heap.size) (disk.tDisk.ext0 R3 (by repeat (first | exact Ext.refl _ | assumption | refine Ext.trans (by assumption) ?_))) R89 (hg.ext0 (by repeat (first | exact Ext.refl _ | assumption | refine Ext.trans (by assumption) ?_)))) ?_
          rintro _ w90 ⟨v90, rfl, R90, X90⟩
          have z90 := X90.size
          obtain ⟨x0, e0, hxe⟩ : ∃ x0 e0, turnedF d [⟨name, [], true⟩] = (x0, e0) := ⟨_, _, rfl⟩
          rw [hxe] at R90 ⊢
          obtain ⟨u3, q3, u4, q4, rfl⟩ := diskShape R90
          refine .p rfl rfl (.mv rfl) ?_
          refine .p rfl rfl (.extract rfl rfl) ?_
          refine .p rfl rfl (.extract rfl rfl) ?_
          refine .v rfl rfl (.alloc rfl rfl) ?_
          rintro _ wn13 ⟨rfl, N13⟩
          refine .s rfl (.storeAll (n := 3) rfl rfl rfl rfl rfl N13.blk rfl) ?_
          intro w13 P13
          have Y13 := N13.ext.then P13.ext (by rintro k rfl _; exact Nat.le_refl _)
          have zy13 := Y13.size
          have B13 := P13.blk
          clear P13 N13
          refine .p rfl rfl (.as rfl) ?_
          refine .nil (.code (.seq (.seq (.keep [(14, _), (13, _), (5, _), (8, _), (11, _)] ⟨rfl, rfl, rfl, rfl, rfl, trivial⟩ (.region ?_)))))
          refine .p rfl rfl (.mv rfl) ?_
          refine .p rfl rfl (.lt rfl rfl) ?_
          refine .nil (.code (.keep [(94, _), (14, _), (13, _), (5, _), (8, _), (11, _)] ⟨rfl, rfl, rfl, rfl, rfl, rfl, trivial⟩ ?_))
          refine .condD rfl (fun c94 => ?_) (fun c94 => ?_)
          · have hne : ¬ e0 = 0 := fun he => by
              obtain ⟨f, hf', hn'⟩ := gone_there (d := d) (s := name) (by rw [hxe]; exact he)
              have h1 := (gone_some (g := -1) (up_ne hup) f hf' hn').1
              have h2 := hsz f hf'
              unfold needF at h1
              omega
            refine .seq (.keep [(14, _), (5, _)] ⟨rfl, rfl, trivial⟩ (.region ?_))
            refine .p rfl rfl (.mv rfl) ?_
            refine .p rfl rfl (.mv rfl) ?_
            refine .p rfl rfl (.mv rfl) ?_
            refine .p rfl rfl (.yes (.ne rfl rfl) (hne)) ?_
            refine .p rfl rfl (.pickT rfl rfl) ?_
            refine .p rfl rfl (.as rfl) ?_
            refine .nil (.code ?_)
            refine .ret _ rfl ?_
            first
              | exact ⟨rfl, (by repeat (first | exact Ext.refl _ | assumption | refine Ext.trans (by assumption) ?_))⟩
          · have hgl : ∃ f ∈ (mountF d).1.fs, f.name = name := Classical.byContradiction fun hno => by
              have h1 := gone_none (s := name) (l := (mountF d).1.fs) (g := -1) (fun f hf' e => hno ⟨f, hf', e⟩)
              omega
            obtain ⟨f, hf', hn'⟩ := hgl
            have hgf := (gone_some (g := -1) (up_ne hup) f hf' hn').1
            have hfz := hsz f hf'
            have hgb : 0 ≤ goneL name (-1) (mountF d).1.fs ∧ goneL name (-1) (mountF d).1.fs ≤ 4096 := by rw [hgf]; unfold needF; omega
            have hroom : e0 = 0 → roomF x0 = (d.count - 80 - sumS (mountF d).1.fs + goneL name (-1) (mountF d).1.fs, 0) := fun he => by
              have h1 := gone_room (d := d) (s := name) (by rw [hxe]; exact he) hsd hf' hn'
              rw [hxe, hrt] at h1
              rw [hgf]
              exact h1
            refine .skip (.code (.seq (.keep [(14, _), (13, _), (5, _), (8, _), (11, _)] ⟨rfl, rfl, rfl, rfl, rfl, trivial⟩ (.region ?_))))
            refine .p rfl rfl (.loadA (n := 3) rfl rfl rfl rfl rfl (B13.ext (S := fun _ => False) (by repeat (first | exact Ext.refl _ | assumption | refine Ext.trans (by assumption) ?_)) (fun x => x)).cells) ?_
            refine .call (first := []) (captured := []) rfl rfl rfl rfl (Room_fn (d := x0) (allOf (disk.tDisk.ext0 R90 (by repeat (first | exact Ext.refl _ | assumption | refine Ext.trans (by assumption) ?_)))) (hg.ext0 (by repeat (first | exact Ext.refl _ | assumption | refine Ext.trans (by assumption) ?_)))) ?_
            rintro _ w102 ⟨rfl, X102⟩
            have z102 := X102.size
            refine .p rfl rfl (.mv rfl) ?_
            refine .p rfl rfl (.extract rfl rfl) ?_
            refine .p rfl rfl (.extract rfl rfl) ?_
            refine .p rfl rfl (.as rfl) ?_
            refine .p rfl rfl (.as rfl) ?_
            refine .nil (.code (.seq (.keep [(16, _), (15, _), (14, _), (5, _), (8, _), (11, _)] ⟨rfl, rfl, rfl, rfl, rfl, rfl, trivial⟩ (.region ?_))))
            refine .p rfl rfl (.mv rfl) ?_
            refine .p rfl rfl (.mv rfl) ?_
            refine .p rfl rfl (.mv rfl) ?_
            refine .p rfl rfl (.ne rfl rfl) ?_
            refine .p rfl rfl (.mv rfl) ?_
            refine .caseD 109 rfl (fun c109 => ?_) (fun c109 => ?_)
            · refine .skip rfl rfl ?_
              refine .skip rfl rfl ?_
              refine .skip rfl rfl ?_
              refine .skip rfl rfl ?_
              refine .skip rfl rfl ?_
              refine .skip rfl rfl ?_
              refine .skip rfl rfl ?_
              refine .skip rfl rfl ?_
              refine .skip rfl rfl ?_
              refine .p rfl rfl (.pickT rfl rfl) ?_
              refine .p rfl rfl (.pickT rfl rfl) ?_
              refine .p rfl rfl (.as rfl) ?_
              refine .nil (.code ?_)
              refine .ret _ rfl ?_
              first
                | exact ⟨rfl, (by repeat (first | exact Ext.refl _ | assumption | refine Ext.trans (by assumption) ?_))⟩
            · refine .p rfl rfl (.mv rfl) ?_
              refine .p rfl rfl (.yes (.eq rfl rfl) (by rw [hroom (by first | assumption | (apply Decidable.not_not.1; assumption))])) ?_
              refine .p rfl rfl (.mv rfl) ?_
              refine .p rfl rfl (.mv rfl) ?_
              refine .p rfl rfl (.mv rfl) ?_
              refine .p rfl rfl (.mv rfl) ?_
              refine .p rfl rfl (.add rfl rfl (by omega)) ?_
              refine .p rfl rfl (.yes (.eq rfl rfl) (by rw [hroom (by first | assumption | (apply Decidable.not_not.1; assumption))])) ?_
              refine .p rfl rfl (.pickT rfl rfl) ?_
              refine .p rfl rfl (.pickF rfl rfl) ?_
              refine .p rfl rfl (.pickT rfl rfl) ?_
              refine .p rfl rfl (.as rfl) ?_
              refine .nil (.code ?_)
              refine .ret _ rfl ?_
              first
                | exact ⟨rfl, (by repeat (first | exact Ext.refl _ | assumption | refine Ext.trans (by assumption) ?_))⟩
end Go.Proofs.YtpfehnopghffjaaGreatDoor
