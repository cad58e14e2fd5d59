import Derived.Test.YtpfehnopghffjaaGreatDoorR11
import Derived.Test.YtpfehnopghffjaaGreatDoorR14
set_option linter.unusedVariables false
set_option linter.unusedSimpArgs false
set_option maxRecDepth 20000
namespace Go.Proofs.YtpfehnopghffjaaGreatDoor
open Go
open room files
namespace files
end files
attribute [local irreducible] readD slotB slotF mountF slotOK checkR disk.readF findTo findF writeF nameF sectE bytesF genTo
theorem refPlace_fn {w : World} {v : Value} {x : Dir} {nm : Bs} (h : tDir.rep All w v x) : Fn Tryz.prog 71 [v, str nm] w (fun r w2 => r = i64 (findF x nm) ∧ Ext (fun _ => False) w w2) := by
  obtain ⟨a, cap, rfl, hf, hg⟩ := tDir.val h
  have hlim := Sl.lim hf
  simp only [Lim] at hlim
  refine Fn.enter (fun w => Tryz.call71 _ w) Tryz.func71 rfl ?_
  refine .seq (.region ?_)
  refine .v rfl rfl (.box rfl) ?_
  rintro _ w2 ⟨rfl, N2⟩
  have B2 := N2.blk
  have X2 := N2.ext
  have z2 := N2.size
  refine .p rfl rfl (.as rfl) ?_
  refine .nil (.code (.seq (.seq (.keep [(2, _), (1, _)] ⟨rfl, rfl, trivial⟩ (.region ?_)))))
  refine .p rfl rfl (.as rfl) ?_
  refine .nil (.code (.block ?_))
  refine .loop (S := Nat) (fun s => [(1, str nm), (2, .pointer (some ⟨w.heap.size, 0, none⟩)), (5, i64 s)]) (fun s => w2) (fun s => s ≤ x.fs.length ∧ ∀ j (h : j < x.fs.length), j < s → ¬ x.fs[j].name = nm) (fun s => x.fs.length - s) 0 ⟨rfl, rfl, rfl, trivial⟩ rfl ⟨Nat.zero_le _, fun j _ h => absurd h (Nat.not_lt_zero _)⟩ ?_
  rintro i J ⟨hi', hn⟩ again
  refine .seq (.seq (.region ?_))
  refine .p rfl rfl (.mv rfl) ?_
  refine .p rfl rfl (.fieldAddr rfl rfl rfl rfl) ?_
  refine .p rfl rfl (.load rfl rfl rfl ((B2.ext (S := fun _ => False) (by repeat (first | exact Ext.refl _ | assumption | refine Ext.trans (by assumption) ?_)) (fun x => x)).cell 1)) ?_
  refine .p rfl rfl (.len rfl rfl) ?_
  refine .p rfl rfl (.lt rfl rfl) ?_
  refine .nil (.code (.keep [(10, _), (1, _), (2, _), (5, _)] ⟨rfl, rfl, rfl, rfl, trivial⟩ ?_))
  refine .condD rfl (fun c10 => ?_) (fun c10 => ?_)
  · have hi : i < x.fs.length := by omega
    obtain ⟨b1, o1, q1, ue1, e1, _, hcs, hre⟩ := Sl.at hf (List.getElem?_eq_getElem hi)
    cases e1
    obtain ⟨fa1, fc1, rfl, hps, hnm, hsz⟩ := tFile.val hre
    refine .skip (.code (.seq (.block (.seq (.keep [(1, _), (2, _), (5, _)] ⟨rfl, rfl, rfl, trivial⟩ (.region ?_))))))
    refine .p rfl rfl (.fieldAddr rfl rfl rfl rfl) ?_
    refine .p rfl rfl (.load rfl rfl rfl ((B2.ext (S := fun _ => False) (by repeat (first | exact Ext.refl _ | assumption | refine Ext.trans (by assumption) ?_)) (fun x => x)).cell 1)) ?_
    refine .p rfl rfl (.mv rfl) ?_
    refine .p rfl rfl (.indexAddr (s := 3) rfl rfl rfl rfl (by omega)) ?_
    refine .p rfl rfl (.fieldAddr rfl rfl rfl rfl) ?_
    refine .p rfl rfl (.load rfl rfl rfl ((hcs.ext (S := fun _ => False) (by repeat (first | exact Ext.refl _ | assumption | refine Ext.trans (by assumption) ?_)) (fun x => x)) 0 _ rfl)) ?_
    refine .p rfl rfl (.mv rfl) ?_
    refine .p rfl rfl (.eqS rfl rfl) ?_
    refine .nil (.code (.keep [(20, _), (1, _), (2, _), (5, _)] ⟨rfl, rfl, rfl, rfl, trivial⟩ ?_))
    refine .condD rfl (fun c20 => ?_) (fun c20 => ?_)
    · refine .seq (.keep [(5, _)] ⟨rfl, trivial⟩ (.region ?_))
      refine .p rfl rfl (.mv rfl) ?_
      refine .p rfl rfl (.as rfl) ?_
      refine .nil (.code ?_)
      refine .ret _ rfl ?_
      refine ⟨?_, (by repeat (first | exact Ext.refl _ | assumption | refine Ext.trans (by assumption) ?_))⟩
      rw [findF_at hi (fun j hj => hn j (by omega) hj) c20]
      rfl
    · refine .skip (.blk (.code (.keep [(1, _), (2, _), (5, _)] ⟨rfl, rfl, rfl, trivial⟩ (.region ?_))))
      refine .p rfl rfl (.mv rfl) ?_
      refine .p rfl rfl (.add rfl rfl (by omega)) ?_
      refine .p rfl rfl (.as rfl) ?_
      refine .nil ?_
      refine (again (i + 1) ⟨by show i + 1 ≤ _; omega, fun j hj h1 => ?_⟩ (by show _ - (i + 1) < _ - i; omega)).of ⟨rfl, rfl, rfl, trivial⟩
      rcases Nat.lt_or_ge j i with h2 | h2
      · exact hn j hj h2
      · have h1 : j < i + 1 := h1
        obtain rfl : j = i := by omega
        exact c20
  · obtain rfl : i = x.fs.length := by omega
    refine .exit rfl (.code (.seq (.keep [] trivial (.region ?_))))
    refine .p rfl rfl (.as rfl) ?_
    refine .nil (.code ?_)
    refine .ret _ rfl ?_
    refine ⟨?_, (by repeat (first | exact Ext.refl _ | assumption | refine Ext.trans (by assumption) ?_))⟩
    rw [findF_no (fun f hf => by obtain ⟨j, hj, rfl⟩ := List.getElem_of_mem hf; exact hn j hj hj)]
    rfl
end Go.Proofs.YtpfehnopghffjaaGreatDoor
namespace Go.Proofs.YtpfehnopghffjaaGreatDoor
open Go
open room files
attribute [local irreducible] readD slotB slotF mountF slotOK checkR disk.readF findTo findF writeF nameF sectE bytesF
theorem refBytesD_fn {w : World} {v vf : Value} {d : Disk} {f : File} (h : disk.tDisk.rep All w v d) (hf : tFile.rep All w vf f) (hck : disk.checkF d = 0) (hin : ∀ n ∈ sectE f.ps, 0 ≤ n ∧ n < d.count) (hsz : 0 ≤ f.size ∧ f.size ≤ ((sectE f.ps).length * 128 : Nat)) : Fn Tryz.prog 72 [v, vf] w (fun r w2 => Gr w2 r (bytesF d f) w.heap.size ∧ Ext (fun _ => False) w w2) := by
  have h0 := h
  obtain ⟨u, u', rfl, hd1, hd2, hdc⟩ := disk.tDisk.val h
  obtain ⟨a1, k1, rfl, _⟩ := Sl.val hd1
  obtain ⟨a2, k2, rfl, _⟩ := Sl.val hd2
  obtain ⟨fa, fc, rfl, hps, hnm, hsz0⟩ := tFile.val hf
  refine Fn.enter (fun w => Tryz.call72 _ w) Tryz.func72 rfl ?_
  refine .seq (.region ?_)
  refine .v rfl rfl (.box rfl) ?_
  rintro _ w2 ⟨rfl, N2⟩
  have B2 := N2.blk
  have X2 := N2.ext
  have z2 := N2.size
  refine .v rfl rfl (.box rfl) ?_
  rintro _ w3 ⟨rfl, N3⟩
  have B3 := N3.blk
  have X3 := N3.ext
  have z3 := N3.size
  refine .p rfl rfl (.as rfl) ?_
  refine .nil (.code (.seq (.keep [(3, _), (2, _)] ⟨rfl, rfl, trivial⟩ (.region ?_))))
  refine .p rfl rfl (.as rfl) ?_
  refine .nil (.code (.seq (.region ?_)))
  refine .p rfl rfl (.fieldAddr rfl rfl rfl rfl) ?_
  refine .p rfl rfl (.load rfl rfl rfl ((B3.ext (S := fun _ => False) (by repeat (first | exact Ext.refl _ | assumption | refine Ext.trans (by assumption) ?_)) (fun x => x)).cell 2)) ?_
  refine .call (first := []) (captured := []) rfl rfl rfl rfl (RefSectors_fn (l := f.ps) (allOf ((Sl tPiece).ext0 hps (by repeat (first | exact Ext.refl _ | assumption | refine Ext.trans (by assumption) ?_))))) ?_
  rintro _ w12 ⟨v12, rfl, O12, X12⟩
  have z12 := X12.size
  have O12 : OwnO tInt (fun _ => False) 3 w12 v12 (sectE f.ps) (fun k => w3.heap.size ≤ k) := by unfold sectE; exact O12
  have hsl := sectE_length f.ps
  obtain ⟨aS, kS, rfl, hkS⟩ := OwnO.val O12
  have hS := OwnO.rep (R := fun k => k < w12.heap.size) O12 (fun _ _ hl => hl) (fun _ h _ => h.elim)
  refine .p rfl rfl (.mv rfl) ?_
  refine .p rfl rfl (.extract rfl rfl) ?_
  refine .p rfl rfl (.extract rfl rfl) ?_
  refine .p rfl rfl (.as rfl) ?_
  refine .p rfl rfl (.as rfl) ?_
  refine .nil (.code (.seq (.seq (.keep [(6, _), (5, _), (3, _), (2, _)] ⟨rfl, rfl, rfl, rfl, trivial⟩ (.region ?_)))))
  refine .p rfl rfl (.as rfl) ?_
  refine .nil (.code (.block ?_))
  refine .loop (S := Nat × Bs × Value × World) (fun s => [(2, .pointer (some ⟨w.heap.size, 0, none⟩)), (3, .pointer (some ⟨w2.heap.size, 0, none⟩)), (5, s.2.2.1), (6, .slice aS (sectE f.ps).length kS), (8, i64 s.1)]) (fun s => s.2.2.2) (fun s => s.1 ≤ (sectE f.ps).length ∧ s.2.1 = ((sectE f.ps).take s.1).flatMap (fun n => disk.readF d n) ∧ s.2.1.length = s.1 * 128 ∧ Gr s.2.2.2 s.2.2.1 s.2.1 w12.heap.size ∧ Ext (fun _ => False) w12 s.2.2.2) (fun s => (sectE f.ps).length - s.1) (0, [], .slice none 0 0, w12) ⟨rfl, rfl, rfl, rfl, rfl, trivial⟩ rfl ⟨Nat.zero_le _, rfl, rfl, OwnO.nil, .refl _⟩ ?_
  rintro ⟨j, acc, vi, wi⟩ J ⟨hj', ha, hal, hO, hX⟩ again
  simp only at hj' ha hal hO hX
  have zi := hX.size
  change G _ [(2, .pointer (some ⟨w.heap.size, 0, none⟩)), (3, .pointer (some ⟨w2.heap.size, 0, none⟩)), (5, vi), (6, .slice aS (sectE f.ps).length kS), (8, i64 j)] _ _ wi
  refine .seq (.seq (.region ?_))
  refine .p rfl rfl (.mv rfl) ?_
  refine .p rfl rfl (.mv rfl) ?_
  refine .p rfl rfl (.len rfl rfl) ?_
  refine .p rfl rfl (.lt rfl rfl) ?_
  refine .nil (.code (.keep [(18, _), (2, _), (3, _), (5, _), (6, _), (8, _)] ⟨rfl, rfl, rfl, rfl, rfl, rfl, trivial⟩ ?_))
  refine .condD rfl (fun c18 => ?_) (fun c18 => ?_)
  · have hj : j < (sectE f.ps).length := by omega
    obtain ⟨bs, os, e, hbs, hci, hri⟩ := Sl.intAt (tInts.ext0 hS hX) hj
    cases e
    have hbs : bs < w12.heap.size := hbs
    have hjn := hin _ (List.getElem_mem hj)
    have hrl := fread_length hck hjn.1 hjn.2
    refine .skip (.code (.seq (.block (.keep [(2, _), (3, _), (5, _), (6, _), (8, _)] ⟨rfl, rfl, rfl, rfl, rfl, trivial⟩ (.mix ((fun k => w12.heap.size ≤ k)) [6, 7] (by kernel_rfl) (by kernel_rfl) (by kernel_rfl) ?_)))))
    refine .p rfl rfl rfl (fun wx hx => .mv rfl) ?_
    refine .p rfl rfl rfl (fun wx hx => .loadA (n := 3) rfl rfl rfl rfl rfl (((B2.ext (S := fun _ => False) (by repeat (first | exact Ext.refl _ | assumption | refine Ext.trans (by assumption) ?_)) (fun x => x)).ext hx (by show ¬ w12.heap.size ≤ w.heap.size; omega)).cells)) ?_
    refine .p rfl rfl rfl (fun wx hx => .mv rfl) ?_
    refine .p rfl rfl rfl (fun wx hx => .mv rfl) ?_
    refine .p rfl rfl rfl (fun wx hx => .indexAddr1 rfl rfl rfl rfl (by omega)) ?_
    refine .p rfl rfl rfl (fun wx hx => .load rfl rfl rfl (hx.cell hci (by show ¬ w12.heap.size ≤ bs; omega))) ?_
    refine .call (first := []) (captured := []) rfl rfl rfl rfl rfl (refNow0_fn (n := (sectE f.ps)[j]) (disk.tDisk.ext0 h0 (by repeat (first | exact Ext.refl _ | assumption | refine Ext.trans (by assumption) ?_))) (disk.asked_of hck hjn.1 hjn.2)) (by rintro _ _ ⟨_, hx⟩; exact hx.mono (fun _ _ h => h.elim)) ?_
    rintro v27 w27 ⟨R27, X27⟩
    have z27 := X27.size
    refine .v rfl rfl rfl (.appendLo (t := tByte) (eb := 1) rfl (OwnO.ext0 hO X27) (fun k hk => by show w12.heap.size ≤ k; omega) rfl (Gr.holds R27) rfl rfl rfl rfl rfl rfl rfl (by omega) (by simp only [Lim]; omega) (fun _ h _ => h.elim)) (by rintro _ _ ⟨_, hx⟩; exact (X27.mono (fun _ _ h => h.elim)).trans hx) ?_
    rintro v28 w28 ⟨O28, A28⟩
    have z28 := A28.size
    refine .p rfl rfl rfl (fun wx hx => .as rfl) ?_
    refine .nil (.blk (.code (.keep [(5, _), (2, _), (3, _), (6, _), (8, _)] ⟨rfl, rfl, rfl, rfl, rfl, trivial⟩ (.region ?_))))
    refine .p rfl rfl (.mv rfl) ?_
    refine .p rfl rfl (.add rfl rfl (by omega)) ?_
    refine .p rfl rfl (.as rfl) ?_
    refine .nil ?_
    exact (again (j + 1, acc ++ disk.readF d (sectE f.ps)[j], v28, w28) ⟨by show j + 1 ≤ _; omega, by show _ = _; rw [flat_step _ hj, ha], by show (acc ++ _).length = (j + 1) * 128; rw [List.length_append]; omega, O28, (hX.trans X27).then A28 (fun k h _ => h)⟩ (by show _ - (j + 1) < _ - j; omega)).of ⟨rfl, rfl, rfl, rfl, rfl, trivial⟩
  · obtain rfl : j = (sectE f.ps).length := by omega
    rw [List.take_length] at ha
    obtain ⟨ab, kb, rfl, hkb⟩ := OwnO.val hO
    refine .exit rfl (.code (.seq (.keep [(3, _), (5, _)] ⟨rfl, rfl, trivial⟩ (.region ?_))))
    refine .p rfl rfl (.mv rfl) ?_
    refine .p rfl rfl (.fieldAddr rfl rfl rfl rfl) ?_
    refine .p rfl rfl (.load rfl rfl rfl ((B3.ext (S := fun _ => False) (by repeat (first | exact Ext.refl _ | assumption | refine Ext.trans (by assumption) ?_)) (fun x => x)).cell 1)) ?_
    refine .p rfl rfl (.cutHi (s := 1) rfl rfl rfl rfl (by omega)) ?_
    refine .p rfl rfl (.as rfl) ?_
    refine .nil (.code ?_)
    refine .ret _ rfl ?_
    refine ⟨?_, (by repeat (first | exact Ext.refl _ | assumption | refine Ext.trans (by assumption) ?_))⟩
    show Gr wi _ (bytesF d f) _
    unfold bytesF
    rw [← ha]
    exact OwnO.mono (own_cutB hO (by omega)) (fun _ h _ => h) (fun k h _ => by have h : w12.heap.size ≤ k := h; show w.heap.size ≤ k; omega)
theorem refFileGet_fn {w : World} {v : Value} {d : Disk} {s : Bs} (h : disk.tDisk.rep All w v d) (hs : s.length < Lim) : Fn Tryz.prog 20 [v, str s] w (fun r w2 => ∃ v', r = .tuple #[v', i64 (getF d s).2] ∧ Gr w2 v' (getF d s).1 w.heap.size ∧ Ext (fun _ => False) w w2) := by
  have h0 := h
  obtain ⟨u, u', rfl, hd1, hd2, hdc⟩ := disk.tDisk.val h
  obtain ⟨a1, k1, rfl, _⟩ := Sl.val hd1
  obtain ⟨a2, k2, rfl, _⟩ := Sl.val hd2
  refine Fn.enter (fun w => Tryz.call20 _ w) Tryz.func20 rfl ?_
  refine .seq (.region ?_)
  refine .v rfl rfl (.box rfl) ?_
  rintro _ w2 ⟨rfl, N2⟩
  have B2 := N2.blk
  have X2 := N2.ext
  have z2 := N2.size
  refine .p rfl rfl (.as rfl) ?_
  refine .p rfl rfl (.as rfl) ?_
  refine .nil (.code (.seq (.keep [(2, _), (1, _)] ⟨rfl, rfl, trivial⟩ (.region ?_))))
  refine .p rfl rfl (.loadA (n := 3) rfl rfl rfl rfl rfl (B2.ext (S := fun _ => False) (by repeat (first | exact Ext.refl _ | assumption | refine Ext.trans (by assumption) ?_)) (fun x => x)).cells) ?_
  refine .call (first := []) (captured := []) rfl rfl rfl rfl (refMount_fn (disk.tDisk.ext0 h0 (by repeat (first | exact Ext.refl _ | assumption | refine Ext.trans (by assumption) ?_)))) ?_
  rintro _ w11 ⟨u11, rfl, R11, X11⟩
  have z11 := X11.size
  obtain ⟨af, kf, rfl, hf, hgen⟩ := tDir.val R11
  refine .p rfl rfl (.mv rfl) ?_
  refine .p rfl rfl (.extract rfl rfl) ?_
  refine .p rfl rfl (.extract rfl rfl) ?_
  refine .v rfl rfl (.alloc rfl rfl) ?_
  rintro _ wn6 ⟨rfl, N6⟩
  refine .s rfl (.storeAll (n := 2) rfl rfl rfl rfl rfl N6.blk rfl) ?_
  intro w6 P6
  have Y6 := N6.ext.then P6.ext (by rintro k rfl _; exact Nat.le_refl _)
  have zy6 := Y6.size
  have B6 := P6.blk
  clear P6 N6
  refine .p rfl rfl (.as rfl) ?_
  refine .nil (.code (.seq (.seq (.keep [(7, _), (6, _), (2, _), (1, _)] ⟨rfl, rfl, rfl, rfl, trivial⟩ (.region ?_)))))
  refine .p rfl rfl (.mv rfl) ?_
  refine .p rfl rfl (.ne rfl rfl) ?_
  refine .nil (.code (.keep [(15, _), (7, _), (6, _), (2, _), (1, _)] ⟨rfl, rfl, rfl, rfl, rfl, trivial⟩ ?_))
  refine .condD rfl (fun c15 => ?_) (fun c15 => ?_)
  · refine .seq (.keep [(7, _)] ⟨rfl, trivial⟩ (.region ?_))
    refine .p rfl rfl (.mv rfl) ?_
    refine .p rfl rfl (.as rfl) ?_
    refine .p rfl rfl (.as rfl) ?_
    refine .nil (.code ?_)
    refine .ret _ rfl ?_
    rw [getF_m c15]
    exact ⟨_, rfl, OwnO.nil, (by repeat (first | exact Ext.refl _ | assumption | refine Ext.trans (by assumption) ?_))⟩
  · have hm : (mountF d).2.2 = 0 := Decidable.not_not.1 c15
    obtain ⟨hck, h96, _, hmay, hckr, hup⟩ := mount_may hm
    refine .skip (.code (.seq (.seq (.keep [(6, _), (2, _), (1, _)] ⟨rfl, rfl, rfl, trivial⟩ (.region ?_)))))
    refine .p rfl rfl (.mv rfl) ?_
    refine .call (first := []) (captured := []) rfl rfl rfl rfl (RefIsName_fn hs) ?_
    rintro _ w18 ⟨rfl, X18⟩
    have z18 := X18.size
    refine .p rfl rfl (.not rfl) ?_
    refine .nil (.code (.keep [(19, _), (6, _), (2, _), (1, _)] ⟨rfl, rfl, rfl, rfl, trivial⟩ ?_))
    refine .cond rfl (fun c19 => ?_) (fun c19 => ?_)
    · refine .seq (.keep [] trivial (.region ?_))
      refine .p rfl rfl (.as rfl) ?_
      refine .p rfl rfl (.as rfl) ?_
      refine .nil (.code ?_)
      refine .ret _ rfl ?_
      rw [getF_5 hm (by simpa using c19)]
      exact ⟨_, rfl, OwnO.nil, (by repeat (first | exact Ext.refl _ | assumption | refine Ext.trans (by assumption) ?_))⟩
    · have hnm : nameF s = true := by simpa using c19
      refine .skip (.code (.seq (.keep [(6, _), (2, _), (1, _)] ⟨rfl, rfl, rfl, trivial⟩ (.region ?_))))
      refine .p rfl rfl (.loadA (n := 2) rfl rfl rfl rfl rfl (B6.ext (S := fun _ => False) (by repeat (first | exact Ext.refl _ | assumption | refine Ext.trans (by assumption) ?_)) (fun x => x)).cells) ?_
      refine .p rfl rfl (.mv rfl) ?_
      refine .call (first := []) (captured := []) rfl rfl rfl rfl (refPlace_fn (x := (mountF d).1) (nm := s) (allOf (tDir.ext0 R11 (by repeat (first | exact Ext.refl _ | assumption | refine Ext.trans (by assumption) ?_))))) ?_
      rintro _ w22 ⟨rfl, X22⟩
      have z22 := X22.size
      refine .p rfl rfl (.as rfl) ?_
      refine .nil (.code (.seq (.seq (.keep [(8, _), (6, _), (2, _)] ⟨rfl, rfl, rfl, trivial⟩ (.region ?_)))))
      refine .p rfl rfl (.mv rfl) ?_
      refine .p rfl rfl (.lt rfl rfl) ?_
      refine .nil (.code (.keep [(24, _), (8, _), (6, _), (2, _)] ⟨rfl, rfl, rfl, rfl, trivial⟩ ?_))
      refine .condD rfl (fun c24 => ?_) (fun c24 => ?_)
      · refine .seq (.keep [] trivial (.region ?_))
        refine .p rfl rfl (.as rfl) ?_
        refine .p rfl rfl (.as rfl) ?_
        refine .nil (.code ?_)
        refine .ret _ rfl ?_
        rw [getF_6 hm hnm c24]
        exact ⟨_, rfl, OwnO.nil, (by repeat (first | exact Ext.refl _ | assumption | refine Ext.trans (by assumption) ?_))⟩
      · obtain ⟨i, hi, hfi⟩ := find_pos c24
        rw [hfi]
        obtain ⟨b1, o1, q1, ue1, e1, _, hcs, hre⟩ := Sl.at hf (List.getElem?_eq_getElem hi)
        cases e1
        obtain ⟨fa1, fc1, rfl, hps, hnm1, hsz1⟩ := tFile.val hre
        obtain ⟨hmany, hsz0⟩ := sect_many hmay hi
        unfold needF at hmany
        refine .skip (.code (.seq (.keep [(8, _), (6, _), (2, _)] ⟨rfl, rfl, rfl, trivial⟩ (.mix (fun _ => False) [6] (by kernel_rfl) (by kernel_rfl) (by kernel_rfl) ?_))))
        refine .p rfl rfl rfl (fun wx hx => .loadA (n := 3) rfl rfl rfl rfl rfl (B2.ext (S := fun _ => False) (Ext.trans (by repeat (first | exact Ext.refl _ | assumption | refine Ext.trans (by assumption) ?_)) hx) (fun x => x)).cells) ?_
        refine .p rfl rfl rfl (fun wx hx => .fieldAddr rfl rfl rfl rfl) ?_
        refine .p rfl rfl rfl (fun wx hx => .load rfl rfl rfl ((B6.ext (S := fun _ => False) (Ext.trans (by repeat (first | exact Ext.refl _ | assumption | refine Ext.trans (by assumption) ?_)) hx) (fun x => x)).cell 1)) ?_
        refine .p rfl rfl rfl (fun wx hx => .mv rfl) ?_
        refine .p rfl rfl rfl (fun wx hx => .indexAddr (s := 3) rfl rfl rfl rfl (by omega)) ?_
        refine .p rfl rfl rfl (fun wx hx => .loadA (n := 3) rfl rfl rfl rfl rfl (by rw [show ((i : Int)).toNat = i from Int.toNat_natCast i]; exact hcs.ext (S := fun _ => False) (Ext.trans (by repeat (first | exact Ext.refl _ | assumption | refine Ext.trans (by assumption) ?_)) hx) (fun x => x))) ?_
        refine .call (first := []) (captured := []) rfl rfl rfl rfl rfl (refBytesD_fn (f := (mountF d).1.fs[i]) (disk.tDisk.ext0 h0 (by repeat (first | exact Ext.refl _ | assumption | refine Ext.trans (by assumption) ?_))) (allOf (tFile.ext0 hre (by repeat (first | exact Ext.refl _ | assumption | refine Ext.trans (by assumption) ?_)))) hck (fun n hn => sect_in hm (List.getElem_mem hi) hn) ⟨hsz0, by omega⟩) (by rintro _ _ ⟨_, hx⟩; exact hx) ?_
        rintro v31 w31 ⟨G31, X31⟩
        have z31 := X31.size
        refine .p rfl rfl rfl (fun wx hx => .as rfl) ?_
        refine .p rfl rfl rfl (fun wx hx => .as rfl) ?_
        refine .nil (.code ?_)
        refine .ret _ rfl ?_
        rw [getF_0 hm hnm hi hfi]
        exact ⟨_, rfl, Gr.low G31 (by omega), (by repeat (first | exact Ext.refl _ | assumption | refine Ext.trans (by assumption) ?_))⟩
theorem refNames_fn {w : World} {v : Value} {d : Disk} (h : disk.tDisk.rep All w v d) : Fn Tryz.prog 22 [v] w (fun r w2 => ∃ v', r = .tuple #[v', i64 (namesF d).2] ∧ OwnO tStr (fun _ => False) 9 w2 v' (namesF d).1 (fun k => w.heap.size ≤ k) ∧ Ext (fun _ => False) w w2) := by
  have h0 := h
  obtain ⟨u, u', rfl, hd1, hd2, hdc⟩ := disk.tDisk.val h
  obtain ⟨a1, k1, rfl, _⟩ := Sl.val hd1
  obtain ⟨a2, k2, rfl, _⟩ := Sl.val hd2
  refine Fn.enter (fun w => Tryz.call22 _ w) Tryz.func22 rfl ?_
  refine .seq (.region ?_)
  refine .v rfl rfl (.box rfl) ?_
  rintro _ w1 ⟨rfl, N1⟩
  have B1 := N1.blk
  have X1 := N1.ext
  have z1 := N1.size
  refine .p rfl rfl (.as rfl) ?_
  refine .p rfl rfl (.as rfl) ?_
  refine .nil (.code (.seq (.keep [(1, _)] ⟨rfl, trivial⟩ (.region ?_))))
  refine .p rfl rfl (.loadA (n := 3) rfl rfl rfl rfl rfl (B1.ext (S := fun _ => False) (by repeat (first | exact Ext.refl _ | assumption | refine Ext.trans (by assumption) ?_)) (fun x => x)).cells) ?_
  refine .call (first := []) (captured := []) rfl rfl rfl rfl (refMount_fn (disk.tDisk.ext0 h0 (by repeat (first | exact Ext.refl _ | assumption | refine Ext.trans (by assumption) ?_)))) ?_
  rintro _ w10 ⟨u10, rfl, R10, X10⟩
  have z10 := X10.size
  obtain ⟨af, kf, rfl, hf, hgen⟩ := tDir.val R10
  refine .p rfl rfl (.mv rfl) ?_
  refine .p rfl rfl (.extract rfl rfl) ?_
  refine .p rfl rfl (.extract rfl rfl) ?_
  refine .v rfl rfl (.alloc rfl rfl) ?_
  rintro _ wn4 ⟨rfl, N4⟩
  refine .s rfl (.storeAll (n := 2) rfl rfl rfl rfl rfl N4.blk rfl) ?_
  intro w4 P4
  have Y4 := N4.ext.then P4.ext (by rintro k rfl _; exact Nat.le_refl _)
  have zy4 := Y4.size
  have B4 := P4.blk
  clear P4 N4
  refine .p rfl rfl (.as rfl) ?_
  refine .nil (.code (.seq (.seq (.keep [(5, _), (4, _)] ⟨rfl, rfl, trivial⟩ (.region ?_)))))
  refine .p rfl rfl (.mv rfl) ?_
  refine .p rfl rfl (.ne rfl rfl) ?_
  refine .nil (.code (.keep [(14, _), (5, _), (4, _)] ⟨rfl, rfl, rfl, trivial⟩ ?_))
  refine .condD rfl (fun c14 => ?_) (fun c14 => ?_)
  · refine .seq (.keep [(5, _)] ⟨rfl, trivial⟩ (.region ?_))
    refine .p rfl rfl (.mv rfl) ?_
    refine .p rfl rfl (.as rfl) ?_
    refine .p rfl rfl (.as rfl) ?_
    refine .nil (.code ?_)
    refine .ret _ rfl ?_
    unfold namesF
    rw [(mountF_bad c14).1]
    exact ⟨_, rfl, OwnO.nil, (by repeat (first | exact Ext.refl _ | assumption | refine Ext.trans (by assumption) ?_))⟩
  · have hm : (mountF d).2.2 = 0 := Decidable.not_not.1 c14
    refine .skip (.code (.seq (.keep [(4, _)] ⟨rfl, trivial⟩ (.region ?_))))
    refine .p rfl rfl (.as rfl) ?_
    refine .nil (.code (.seq (.seq (.region ?_))))
    refine .p rfl rfl (.as rfl) ?_
    refine .nil (.code (.block ?_))
    refine .loop (S := Nat × List Bs × Value × World) (fun s => [(4, .pointer (some ⟨w10.heap.size, 0, none⟩)), (6, s.2.2.1), (7, i64 s.1)]) (fun s => s.2.2.2) (fun s => s.1 ≤ (mountF d).1.fs.length ∧ s.2.1 = ((mountF d).1.fs.take s.1).map (·.name) ∧ OwnO tStr (fun _ => False) 9 s.2.2.2 s.2.2.1 s.2.1 (fun k => w4.heap.size ≤ k) ∧ Ext (fun _ => False) w4 s.2.2.2) (fun s => (mountF d).1.fs.length - s.1) (0, [], .slice none 0 0, w4) ⟨rfl, rfl, rfl, trivial⟩ rfl ⟨Nat.zero_le _, rfl, OwnO.nil, .refl _⟩ ?_
    rintro ⟨i, acc, vi, wi⟩ J ⟨hi', ha, hO, hX⟩ again
    simp only at hi' ha hO hX
    have zi := hX.size
    have hal : acc.length = i := by rw [ha, List.length_map, List.length_take]; omega
    change G _ [(4, .pointer (some ⟨w10.heap.size, 0, none⟩)), (6, vi), (7, i64 i)] _ _ wi
    refine .seq (.seq (.region ?_))
    refine .p rfl rfl (.mv rfl) ?_
    refine .p rfl rfl (.fieldAddr rfl rfl rfl rfl) ?_
    refine .p rfl rfl (.load rfl rfl rfl ((B4.ext (S := fun _ => False) (by repeat (first | exact Ext.refl _ | assumption | refine Ext.trans (by assumption) ?_)) (fun x => x)).cell 1)) ?_
    refine .p rfl rfl (.len rfl rfl) ?_
    refine .p rfl rfl (.lt rfl rfl) ?_
    refine .nil (.code (.keep [(20, _), (4, _), (6, _), (7, _)] ⟨rfl, rfl, rfl, rfl, trivial⟩ ?_))
    refine .condD rfl (fun c20 => ?_) (fun c20 => ?_)
    · have hi : i < (mountF d).1.fs.length := by omega
      obtain ⟨b1, o1, q1, ue1, e1, _, hcs, hre⟩ := Sl.at hf (List.getElem?_eq_getElem hi)
      cases e1
      obtain ⟨fa1, fc1, rfl, hps, hnm, hsz⟩ := tFile.val hre
      have hlim := mount_32 d
      refine .skip (.code (.seq (.block (.keep [(4, _), (6, _), (7, _)] ⟨rfl, rfl, rfl, trivial⟩ (.region ?_)))))
      refine .p rfl rfl (.mv rfl) ?_
      refine .p rfl rfl (.fieldAddr rfl rfl rfl rfl) ?_
      refine .p rfl rfl (.load rfl rfl rfl ((B4.ext (S := fun _ => False) (by repeat (first | exact Ext.refl _ | assumption | refine Ext.trans (by assumption) ?_)) (fun x => x)).cell 1)) ?_
      refine .p rfl rfl (.mv rfl) ?_
      refine .p rfl rfl (.indexAddr (s := 3) rfl rfl rfl rfl (by omega)) ?_
      refine .p rfl rfl (.fieldAddr rfl rfl rfl rfl) ?_
      refine .p rfl rfl (.load rfl rfl rfl ((hcs.ext (S := fun _ => False) (by repeat (first | exact Ext.refl _ | assumption | refine Ext.trans (by assumption) ?_)) (fun x => x)) 0 _ rfl)) ?_
      refine .v rfl rfl (.lits rfl rfl (fun _ => by kernel_rfl)) ?_
      rintro _ w30 ⟨rfl, N30⟩
      have z30 := N30.size
      have X30 := N30.ext
      refine .v rfl rfl (.appendLo (t := tStr) (xs := acc) (ys := [(mountF d).1.fs[i].name]) (eb := 16) rfl (OwnO.ext0 hO X30) (fun k hk => by show w4.heap.size ≤ k; omega) rfl (.inr (New.holds (t := tStr) (us := [_]) (xs := [(mountF d).1.fs[i].name]) N30 (.cons ⟨rfl, hnm⟩ .nil) rfl)) rfl rfl rfl rfl rfl rfl rfl (by simp; omega) (by simp [Lim]; omega) (fun _ h _ => h.elim)) ?_
      rintro v31 w31 ⟨O31, A31⟩
      have z31 := A31.size
      refine .p rfl rfl (.as rfl) ?_
      refine .nil (.blk (.code (.keep [(6, _), (4, _), (7, _)] ⟨rfl, rfl, rfl, trivial⟩ (.region ?_))))
      refine .p rfl rfl (.mv rfl) ?_
      refine .p rfl rfl (.add rfl rfl (by omega)) ?_
      refine .p rfl rfl (.as rfl) ?_
      refine .nil ?_
      exact (again (i + 1, acc ++ [(mountF d).1.fs[i].name], v31, w31) ⟨by show i + 1 ≤ _; omega, by show _ = _; rw [List.take_succ_eq_append_getElem hi, List.map_append, ha]; rfl, O31, (hX.trans X30).then A31 (fun k h _ => h)⟩ (by show _ - (i + 1) < _ - i; omega)).of ⟨rfl, rfl, rfl, trivial⟩
    · obtain rfl : i = (mountF d).1.fs.length := by omega
      rw [List.take_length] at ha
      refine .exit rfl (.code (.seq (.keep [(6, _)] ⟨rfl, trivial⟩ (.region ?_))))
      refine .p rfl rfl (.mv rfl) ?_
      refine .p rfl rfl (.as rfl) ?_
      refine .p rfl rfl (.as rfl) ?_
      refine .nil (.code ?_)
      refine .ret _ rfl ?_
      unfold namesF
      rw [← ha, hm]
      exact ⟨_, rfl, OwnO.mono hO (fun _ h _ => h) (fun k h _ => by have h : w4.heap.size ≤ k := h; show w.heap.size ≤ k; omega), (by repeat (first | exact Ext.refl _ | assumption | refine Ext.trans (by assumption) ?_))⟩
theorem refRoomD_fn {w : World} {v : Value} {d : Disk} (h : disk.tDisk.rep All w v d) : Fn Tryz.prog 24 [v] w (fun r w2 => r = .tuple #[i64 (roomF d).1, i64 (roomF d).2] ∧ Ext (fun _ => False) w w2) := by
  have h0 := h
  obtain ⟨u, u', rfl, hd1, hd2, hdc⟩ := disk.tDisk.val h
  obtain ⟨a1, k1, rfl, _⟩ := Sl.val hd1
  obtain ⟨a2, k2, rfl, _⟩ := Sl.val hd2
  refine Fn.enter (fun w => Tryz.call24 _ w) Tryz.func24 rfl ?_
  refine .seq (.region ?_)
  refine .v rfl rfl (.box rfl) ?_
  rintro _ w1 ⟨rfl, N1⟩
  have B1 := N1.blk
  have X1 := N1.ext
  have z1 := N1.size
  refine .p rfl rfl (.as rfl) ?_
  refine .p rfl rfl (.as rfl) ?_
  refine .nil (.code (.seq (.keep [(1, _)] ⟨rfl, trivial⟩ (.region ?_))))
  refine .p rfl rfl (.loadA (n := 3) rfl rfl rfl rfl rfl (B1.ext (S := fun _ => False) (by repeat (first | exact Ext.refl _ | assumption | refine Ext.trans (by assumption) ?_)) (fun x => x)).cells) ?_
  refine .call (first := []) (captured := []) rfl rfl rfl rfl (refMount_fn (disk.tDisk.ext0 h0 (by repeat (first | exact Ext.refl _ | assumption | refine Ext.trans (by assumption) ?_)))) ?_
  rintro _ w12 ⟨u12, rfl, R12, X12⟩
  have z12 := X12.size
  obtain ⟨af, kf, rfl, hf, hgen⟩ := tDir.val R12
  refine .p rfl rfl (.mv rfl) ?_
  refine .p rfl rfl (.extract rfl rfl) ?_
  refine .p rfl rfl (.extract rfl rfl) ?_
  refine .v rfl rfl (.alloc rfl rfl) ?_
  rintro _ wn4 ⟨rfl, N4⟩
  refine .s rfl (.storeAll (n := 2) rfl rfl rfl rfl rfl N4.blk rfl) ?_
  intro w4 P4
  have Y4 := N4.ext.then P4.ext (by rintro k rfl _; exact Nat.le_refl _)
  have zy4 := Y4.size
  have B4 := P4.blk
  clear P4 N4
  refine .p rfl rfl (.as rfl) ?_
  refine .nil (.code (.seq (.seq (.keep [(5, _), (4, _), (1, _)] ⟨rfl, rfl, rfl, trivial⟩ (.region ?_)))))
  refine .p rfl rfl (.mv rfl) ?_
  refine .p rfl rfl (.ne rfl rfl) ?_
  refine .nil (.code (.keep [(16, _), (5, _), (4, _), (1, _)] ⟨rfl, rfl, rfl, rfl, trivial⟩ ?_))
  refine .condD rfl (fun c16 => ?_) (fun c16 => ?_)
  · refine .seq (.keep [(5, _)] ⟨rfl, trivial⟩ (.region ?_))
    refine .p rfl rfl (.mv rfl) ?_
    refine .p rfl rfl (.as rfl) ?_
    refine .p rfl rfl (.as rfl) ?_
    refine .nil (.code ?_)
    refine .ret _ rfl ?_
    rw [roomF_m c16]
    exact ⟨rfl, (by repeat (first | exact Ext.refl _ | assumption | refine Ext.trans (by assumption) ?_))⟩
  · have hm : (mountF d).2.2 = 0 := Decidable.not_not.1 c16
    obtain ⟨hck, h96, _, hmay, hckr, hup⟩ := mount_may hm
    refine .skip (.code (.seq (.keep [(4, _), (1, _)] ⟨rfl, rfl, trivial⟩ (.mix (fun _ => False) [3, 4] (by kernel_rfl) (by kernel_rfl) (by kernel_rfl) ?_))))
    refine .p rfl rfl rfl (fun wx hx => .fieldAddr rfl rfl rfl rfl) ?_
    refine .p rfl rfl rfl (fun wx hx => .load rfl rfl rfl ((B1.ext (S := fun _ => False) (Ext.trans (by repeat (first | exact Ext.refl _ | assumption | refine Ext.trans (by assumption) ?_)) hx) (fun x => x)).cell 0)) ?_
    refine .p rfl rfl rfl (fun wx hx => .loadA (n := 2) rfl rfl rfl rfl rfl (B4.ext (S := fun _ => False) (Ext.trans (by repeat (first | exact Ext.refl _ | assumption | refine Ext.trans (by assumption) ?_)) hx) (fun x => x)).cells) ?_
    refine .call (first := []) (captured := []) rfl rfl rfl rfl rfl (refPieces_fn (x := (mountF d).1) (allOf (tDir.ext0 R12 (by repeat (first | exact Ext.refl _ | assumption | refine Ext.trans (by assumption) ?_)))) (small_dir hmay)) (by rintro _ _ ⟨_, hx⟩; exact hx) ?_
    rintro v22 w22 ⟨O22, X22⟩
    have z22 := X22.size
    refine .call (first := []) (captured := []) rfl rfl rfl rfl rfl (RefFree_fn (first := 80) (count := d.count) (OwnO.rep O22 (R := All) (fun _ _ _ => trivial) (fun _ h _ => h.elim))) (by rintro _ _ ⟨_, _, _, hx⟩; exact X22.trans hx) ?_
    rintro _ w23 ⟨v23, rfl, O23, X23⟩
    have z23 := X23.size
    refine .p rfl rfl rfl (fun wx hx => .mv rfl) ?_
    refine .p rfl rfl rfl (fun wx hx => .extract rfl rfl) ?_
    refine .p rfl rfl rfl (fun wx hx => .extract rfl rfl) ?_
    refine .p rfl rfl rfl (fun wx hx => .as rfl) ?_
    refine .p rfl rfl rfl (fun wx hx => .as rfl) ?_
    refine .nil (.code (.seq (.keep [(6, _)] ⟨rfl, trivial⟩ (.region ?_))))
    refine .p rfl rfl (.mv rfl) ?_
    refine .call (first := []) (captured := []) rfl rfl rfl rfl (RefMany_fn (OwnO.rep O23 (R := All) (fun _ _ _ => trivial) (fun _ h _ => h.elim))) ?_
    rintro _ w28 ⟨rfl, X28⟩
    have z28 := X28.size
    refine .p rfl rfl (.mv rfl) ?_
    refine .p rfl rfl (.extract rfl rfl) ?_
    refine .p rfl rfl (.extract rfl rfl) ?_
    refine .p rfl rfl (.as rfl) ?_
    refine .p rfl rfl (.as rfl) ?_
    refine .nil (.code (.seq (.keep [(8, _)] ⟨rfl, trivial⟩ (.region ?_))))
    refine .p rfl rfl (.mv rfl) ?_
    refine .p rfl rfl (.as rfl) ?_
    refine .p rfl rfl (.as rfl) ?_
    refine .nil (.code ?_)
    refine .ret _ rfl ?_
    rw [roomF_0 hm]
    refine ⟨?_, (by repeat (first | exact Ext.refl _ | assumption | refine Ext.trans (by assumption) ?_))⟩
    rw [if_pos (free_check 80 d.count (allP (mountF d).1.fs))]
    rfl
theorem refTextsT_fn {w : World} {v u : Value} {a : List Bs} (ha : tStrs.rep All w v a) (hb : tStrs.rep All w u a) : Fn Tryz.prog 25 [v, u] w (fun r w2 => r = .bool true ∧ Ext (fun _ => False) w w2) := by
  obtain ⟨x2, y2, rfl, _⟩ := Sl.val ha
  obtain ⟨x4, y4, rfl, _⟩ := Sl.val hb
  have hl1 := Sl.lim ha
  simp only [Lim] at hl1
  refine Fn.enter (fun w => Tryz.call25 _ w) Tryz.func25 rfl ?_
  refine .seq (.region ?_)
  refine .p rfl rfl (.as rfl) ?_
  refine .nil (.code (.seq (.seq (.keep [(0, _), (1, _)] ⟨rfl, rfl, trivial⟩ (.region ?_)))))
  refine .p rfl rfl (.mv rfl) ?_
  refine .p rfl rfl (.len rfl rfl) ?_
  refine .p rfl rfl (.mv rfl) ?_
  refine .p rfl rfl (.len rfl rfl) ?_
  refine .p rfl rfl (.no (.ne rfl rfl) (fun h => h rfl)) ?_
  refine .nil (.code (.keep [(10, _), (0, _), (1, _)] ⟨rfl, rfl, rfl, trivial⟩ (.condF rfl (.skip (.code (.seq (.seq (.keep [(0, _), (1, _)] ⟨rfl, rfl, trivial⟩ (.region ?_)))))))))
  refine .p rfl rfl (.as rfl) ?_
  refine .nil (.code (.block ?_))
  refine .loop (S := Nat) (fun s => [(0, .slice x2 a.length y2), (1, .slice x4 a.length y4), (5, i64 s)]) (fun s => w) (fun s => s ≤ a.length) (fun s => a.length - s) 0 ⟨rfl, rfl, rfl, trivial⟩ rfl (Nat.zero_le _) ?_
  rintro i J hi' again
  refine .seq (.seq (.region ?_))
  refine .p rfl rfl (.mv rfl) ?_
  refine .p rfl rfl (.mv rfl) ?_
  refine .p rfl rfl (.len rfl rfl) ?_
  refine .p rfl rfl (.lt rfl rfl) ?_
  refine .nil (.code (.keep [(14, _), (0, _), (1, _), (5, _)] ⟨rfl, rfl, rfl, rfl, trivial⟩ ?_))
  refine .condD rfl (fun c14 => ?_) (fun c14 => ?_)
  · have hil : i < a.length := by omega
    obtain ⟨b1, o1, rfl, _, hca, _⟩ := Sl.strAt ha hil
    obtain ⟨b2, o2, rfl, _, hcb, _⟩ := Sl.strAt hb hil
    refine .skip (.code (.seq (.block (.seq (.keep [(0, _), (1, _), (5, _)] ⟨rfl, rfl, rfl, trivial⟩ (.draws (by kernel_rfl) (by kernel_rfl) ?_))))))
    refine .p rfl rfl (.mv rfl) ?_
    refine .p rfl rfl (.mv rfl) ?_
    refine .p rfl rfl (.indexAddr1 rfl rfl rfl rfl (by omega)) ?_
    refine .p rfl rfl (.load rfl rfl rfl hca) ?_
    refine .p rfl rfl (.mv rfl) ?_
    refine .p rfl rfl (.mv rfl) ?_
    refine .p rfl rfl (.indexAddr1 rfl rfl rfl rfl (by omega)) ?_
    refine .p rfl rfl (.load rfl rfl rfl hcb) ?_
    refine .p rfl rfl (.no (.neS rfl rfl) (fun h => h rfl)) ?_
    refine .nil (.code (.keep [(25, _), (0, _), (1, _), (5, _)] ⟨rfl, rfl, rfl, rfl, trivial⟩ (.condF rfl (.skip (.blk (.code (.keep [(0, _), (1, _), (5, _)] ⟨rfl, rfl, rfl, trivial⟩ (.region ?_))))))))
    refine .p rfl rfl (.mv rfl) ?_
    refine .p rfl rfl (.add rfl rfl (by omega)) ?_
    refine .p rfl rfl (.as rfl) ?_
    refine .nil ?_
    exact (again (i + 1) (by show i + 1 ≤ _; omega) (by show _ - (i + 1) < _ - i; omega)).of ⟨rfl, rfl, rfl, trivial⟩
  · refine .exit rfl (.code (.seq (.keep [] trivial (.region ?_))))
    refine .p rfl rfl (.as rfl) ?_
    refine .nil (.code ?_)
    refine .ret _ rfl ?_
    exact ⟨rfl, .refl _⟩
end Go.Proofs.YtpfehnopghffjaaGreatDoor
namespace Go.Proofs.YtpfehnopghffjaaGreatDoor
open Go
open room files
namespace files
noncomputable def b1 : Bs := (writeF ⟨1, []⟩).1
end files
end Go.Proofs.YtpfehnopghffjaaGreatDoor
namespace Go.Proofs.YtpfehnopghffjaaGreatDoor
open Go
open room files
namespace files
def largeP (d : Disk) : Prop := (40000 < d.data.length ∧ 0 < d.count ∧ d.count ≤ 4096) ∨ 600000 < d.data.length ∨ 300 < d.waits.length
instance (d : Disk) : Decidable (files.largeP d) := by unfold files.largeP; infer_instance
def largeL (d : Disk) : Bool := decide (files.largeP d)
theorem largeL_not {d : Disk} (h : largeL d = false) : d.data.length ≤ 600000 ∧ d.waits.length ≤ 300 ∧ (0 < d.count → d.count ≤ 4096 → d.data.length ≤ 40000) := by
  have h := of_decide_eq_false h
  unfold files.largeP at h
  omega
end files
theorem diskShape {P : Nat → Prop} {w : World} {v : Value} {d : Disk} (h : disk.tDisk.rep P w v d) : ∃ a1 c1 a2 c2, v = .agg #[i64 d.count, .slice a1 d.data.length c1, .slice a2 d.waits.length c2] := by
  obtain ⟨u1, u2, rfl, h1, h2, _⟩ := disk.tDisk.val h
  obtain ⟨a1, c1, rfl, _⟩ := Sl.val h1
  obtain ⟨a2, c2, rfl, _⟩ := Sl.val h2
  exact ⟨a1, c1, a2, c2, rfl⟩
theorem filesLarge_fn {w : World} {v : Value} {d : Disk} (h : disk.tDisk.rep All w v d) : Fn Tryz.prog 17 [v] w (fun r w2 => r = .bool (files.largeL d) ∧ Ext (fun _ => False) w w2) := by
  obtain ⟨u, u', rfl, hd, hw, hc1, hc2⟩ := disk.tDisk.val h
  obtain ⟨a, cap, rfl, hcap⟩ := Sl.val hd
  obtain ⟨aw, capw, rfl, hcapw⟩ := Sl.val hw
  refine Fn.enter (fun w => Tryz.call17 _ w) Tryz.func17 rfl ?_
  refine .seq (.region ?_)
  refine .v rfl rfl (.box rfl) ?_
  rintro _ w1 ⟨rfl, N1⟩
  have B1 := N1.blk
  refine .p rfl rfl (.as rfl) ?_
  refine .nil (.code (.seq (.keep [(1, _)] ⟨rfl, trivial⟩ (.region ?_))))
  refine .p rfl rfl (.fieldAddr rfl rfl rfl rfl) ?_
  refine .p rfl rfl (.load rfl rfl rfl (B1.cell 1)) ?_
  refine .p rfl rfl (.len rfl rfl) ?_
  refine .p rfl rfl (.gt rfl rfl) ?_
  refine .p rfl rfl (.mv rfl) ?_
  refine .caseD 7 rfl (fun c7 => ?_) (fun c7 => ?_)
  · refine .p rfl rfl (.fieldAddr rfl rfl rfl rfl) ?_
    refine .p rfl rfl (.load rfl rfl rfl (B1.cell 0)) ?_
    refine .p rfl rfl (.gt rfl rfl) ?_
    refine .p rfl rfl (.pickT rfl rfl) ?_
    refine .p rfl rfl (.mv rfl) ?_
    refine .caseD 12 rfl (fun c12 => ?_) (fun c12 => ?_)
    · refine .p rfl rfl (.fieldAddr rfl rfl rfl rfl) ?_
      refine .p rfl rfl (.load rfl rfl rfl (B1.cell 0)) ?_
      refine .p rfl rfl (.le rfl rfl) ?_
      refine .p rfl rfl (.pickT rfl rfl) ?_
      refine .p rfl rfl (.mv rfl) ?_
      refine .caseD 17 rfl (fun c17 => ?_) (fun c17 => ?_)
      · refine .skip rfl rfl ?_
        refine .skip rfl rfl ?_
        refine .skip rfl rfl ?_
        refine .skip rfl rfl ?_
        refine .p rfl rfl (.pickT rfl rfl) ?_
        refine .p rfl rfl (.mv rfl) ?_
        refine .skip rfl rfl ?_
        refine .skip rfl rfl ?_
        refine .skip rfl rfl ?_
        refine .skip rfl rfl ?_
        refine .p rfl rfl (.pickT rfl rfl) ?_
        refine .p rfl rfl (.as rfl) ?_
        refine .nil (.code ?_)
        refine .ret _ rfl ?_
        refine ⟨?_, N1.ext⟩
        first
          | (rw [show files.largeL d = true from decide_eq_true (by unfold files.largeP; omega)]; rfl)
          | (rw [show files.largeL d = false from decide_eq_false (by unfold files.largeP; omega)]; rfl)
          | exact congrArg Value.bool (decide_eq_decide.2 ⟨fun hh => by unfold files.largeP; omega, fun hh => by unfold files.largeP at hh; omega⟩)
      · refine .p rfl rfl (.fieldAddr rfl rfl rfl rfl) ?_
        refine .p rfl rfl (.load rfl rfl rfl (B1.cell 1)) ?_
        refine .p rfl rfl (.len rfl rfl) ?_
        refine .p rfl rfl (.gt rfl rfl) ?_
        refine .p rfl rfl (.pickF rfl rfl) ?_
        refine .p rfl rfl (.mv rfl) ?_
        refine .caseD 23 rfl (fun c23 => ?_) (fun c23 => ?_)
        · refine .skip rfl rfl ?_
          refine .skip rfl rfl ?_
          refine .skip rfl rfl ?_
          refine .skip rfl rfl ?_
          refine .p rfl rfl (.pickT rfl rfl) ?_
          refine .p rfl rfl (.as rfl) ?_
          refine .nil (.code ?_)
          refine .ret _ rfl ?_
          refine ⟨?_, N1.ext⟩
          first
            | (rw [show files.largeL d = true from decide_eq_true (by unfold files.largeP; omega)]; rfl)
            | (rw [show files.largeL d = false from decide_eq_false (by unfold files.largeP; omega)]; rfl)
            | exact congrArg Value.bool (decide_eq_decide.2 ⟨fun hh => by unfold files.largeP; omega, fun hh => by unfold files.largeP at hh; omega⟩)
        · refine .p rfl rfl (.fieldAddr rfl rfl rfl rfl) ?_
          refine .p rfl rfl (.load rfl rfl rfl (B1.cell 2)) ?_
          refine .p rfl rfl (.len rfl rfl) ?_
          refine .p rfl rfl (.gt rfl rfl) ?_
          refine .p rfl rfl (.pickF rfl rfl) ?_
          refine .p rfl rfl (.as rfl) ?_
          refine .nil (.code ?_)
          refine .ret _ rfl ?_
          refine ⟨?_, N1.ext⟩
          first
            | (rw [show files.largeL d = true from decide_eq_true (by unfold files.largeP; omega)]; rfl)
            | (rw [show files.largeL d = false from decide_eq_false (by unfold files.largeP; omega)]; rfl)
            | exact congrArg Value.bool (decide_eq_decide.2 ⟨fun hh => by unfold files.largeP; omega, fun hh => by unfold files.largeP at hh; omega⟩)
    · refine .skip rfl rfl ?_
      refine .skip rfl rfl ?_
      refine .skip rfl rfl ?_
      refine .p rfl rfl (.pickF rfl rfl) ?_
      refine .p rfl rfl (.mv rfl) ?_
      refine .p rfl rfl (.fieldAddr rfl rfl rfl rfl) ?_
      refine .p rfl rfl (.load rfl rfl rfl (B1.cell 1)) ?_
      refine .p rfl rfl (.len rfl rfl) ?_
      refine .p rfl rfl (.gt rfl rfl) ?_
      refine .p rfl rfl (.pickF rfl rfl) ?_
      refine .p rfl rfl (.mv rfl) ?_
      refine .caseD 23 rfl (fun c23 => ?_) (fun c23 => ?_)
      · refine .skip rfl rfl ?_
        refine .skip rfl rfl ?_
        refine .skip rfl rfl ?_
        refine .skip rfl rfl ?_
        refine .p rfl rfl (.pickT rfl rfl) ?_
        refine .p rfl rfl (.as rfl) ?_
        refine .nil (.code ?_)
        refine .ret _ rfl ?_
        refine ⟨?_, N1.ext⟩
        first
          | (rw [show files.largeL d = true from decide_eq_true (by unfold files.largeP; omega)]; rfl)
          | (rw [show files.largeL d = false from decide_eq_false (by unfold files.largeP; omega)]; rfl)
          | exact congrArg Value.bool (decide_eq_decide.2 ⟨fun hh => by unfold files.largeP; omega, fun hh => by unfold files.largeP at hh; omega⟩)
      · refine .p rfl rfl (.fieldAddr rfl rfl rfl rfl) ?_
        refine .p rfl rfl (.load rfl rfl rfl (B1.cell 2)) ?_
        refine .p rfl rfl (.len rfl rfl) ?_
        refine .p rfl rfl (.gt rfl rfl) ?_
        refine .p rfl rfl (.pickF rfl rfl) ?_
        refine .p rfl rfl (.as rfl) ?_
        refine .nil (.code ?_)
        refine .ret _ rfl ?_
        refine ⟨?_, N1.ext⟩
        first
          | (rw [show files.largeL d = true from decide_eq_true (by unfold files.largeP; omega)]; rfl)
          | (rw [show files.largeL d = false from decide_eq_false (by unfold files.largeP; omega)]; rfl)
          | exact congrArg Value.bool (decide_eq_decide.2 ⟨fun hh => by unfold files.largeP; omega, fun hh => by unfold files.largeP at hh; omega⟩)
  · refine .skip rfl rfl ?_
    refine .skip rfl rfl ?_
    refine .skip rfl rfl ?_
    refine .p rfl rfl (.pickF rfl rfl) ?_
    refine .p rfl rfl (.mv rfl) ?_
    refine .skip rfl rfl ?_
    refine .skip rfl rfl ?_
    refine .skip rfl rfl ?_
    refine .p rfl rfl (.pickF rfl rfl) ?_
    refine .p rfl rfl (.mv rfl) ?_
    refine .p rfl rfl (.fieldAddr rfl rfl rfl rfl) ?_
    refine .p rfl rfl (.load rfl rfl rfl (B1.cell 1)) ?_
    refine .p rfl rfl (.len rfl rfl) ?_
    refine .p rfl rfl (.gt rfl rfl) ?_
    refine .p rfl rfl (.pickF rfl rfl) ?_
    refine .p rfl rfl (.mv rfl) ?_
    refine .caseD 23 rfl (fun c23 => ?_) (fun c23 => ?_)
    · refine .skip rfl rfl ?_
      refine .skip rfl rfl ?_
      refine .skip rfl rfl ?_
      refine .skip rfl rfl ?_
      refine .p rfl rfl (.pickT rfl rfl) ?_
      refine .p rfl rfl (.as rfl) ?_
      refine .nil (.code ?_)
      refine .ret _ rfl ?_
      refine ⟨?_, N1.ext⟩
      first
        | (rw [show files.largeL d = true from decide_eq_true (by unfold files.largeP; omega)]; rfl)
        | (rw [show files.largeL d = false from decide_eq_false (by unfold files.largeP; omega)]; rfl)
        | exact congrArg Value.bool (decide_eq_decide.2 ⟨fun hh => by unfold files.largeP; omega, fun hh => by unfold files.largeP at hh; omega⟩)
    · refine .p rfl rfl (.fieldAddr rfl rfl rfl rfl) ?_
      refine .p rfl rfl (.load rfl rfl rfl (B1.cell 2)) ?_
      refine .p rfl rfl (.len rfl rfl) ?_
      refine .p rfl rfl (.gt rfl rfl) ?_
      refine .p rfl rfl (.pickF rfl rfl) ?_
      refine .p rfl rfl (.as rfl) ?_
      refine .nil (.code ?_)
      refine .ret _ rfl ?_
      refine ⟨?_, N1.ext⟩
      first
        | (rw [show files.largeL d = true from decide_eq_true (by unfold files.largeP; omega)]; rfl)
        | (rw [show files.largeL d = false from decide_eq_false (by unfold files.largeP; omega)]; rfl)
        | exact congrArg Value.bool (decide_eq_decide.2 ⟨fun hh => by unfold files.largeP; omega, fun hh => by unfold files.largeP at hh; omega⟩)
end Go.Proofs.YtpfehnopghffjaaGreatDoor
namespace Go.Proofs.YtpfehnopghffjaaGreatDoor
open Go
open room files
attribute [local irreducible] mountF roomF getF namesF
theorem WrB.ofO {W : World} {v : Value} {l : Bs} {B : Nat → Prop} (h : OwnO tByte (fun _ => False) 5 W v l B) : WrB W B v l.length := by
  rcases h with ⟨h1, h2⟩ | ⟨b, h1, h2, h3⟩
  · exact .inl ⟨by rw [h1]; rfl, h2⟩
  · exact WrB.of h3 (fun _ => h1)
theorem FilesReads_fn {w : World} {v : Value} {d : Disk} {name : Bs} (h : disk.tDisk.rep All w v d) (hs : name.length < Lim) (hg : GOK w) : Fn Tryz.prog 4 [v, str name] w (fun r w2 => r = .bool true ∧ Ext (fun _ => False) w w2) := by
  have R0 := disk.tDisk.mono h (P' := fun k => k < w.heap.size) (fun k _ h => h)
  obtain ⟨u1, q1, u2, q2, rfl⟩ := diskShape h
  have hs2 := hs
  simp only [Lim] at hs2
  refine Fn.enter (fun w => Tryz.call4 _ w) Tryz.func4 rfl ?_
  refine .seq (.region ?_)
  refine .v rfl rfl (.box rfl) ?_
  rintro _ w2 ⟨rfl, N2⟩
  have B2 := N2.blk
  have X2 := N2.ext
  have z2 := N2.size
  refine .p rfl rfl (.as rfl) ?_
  refine .nil (.code (.seq (.seq (.keep [(2, _), (1, _)] ⟨rfl, rfl, trivial⟩ (.region ?_)))))
  refine .p rfl rfl (.loadA (n := 3) rfl rfl rfl rfl rfl (B2.ext (S := fun _ => False) (by repeat (first | exact Ext.refl _ | assumption | refine Ext.trans (by assumption) ?_)) (fun x => x)).cells) ?_
  refine .call (first := []) (captured := []) rfl rfl rfl rfl (filesLarge_fn (disk.tDisk.ext0 h (by repeat (first | exact Ext.refl _ | assumption | refine Ext.trans (by assumption) ?_)))) ?_
  rintro _ w20 ⟨rfl, X20⟩
  have z20 := X20.size
  refine .p rfl rfl (.mv rfl) ?_
  refine .case 21 rfl (fun c21 => ?_) (fun c21 => ?_)
  · refine .skip rfl rfl ?_
    refine .skip rfl rfl ?_
    refine .skip rfl rfl ?_
    refine .p rfl rfl (.pickT rfl rfl) ?_
    refine .nil (.code (.keep [(25, _), (2, _), (1, _)] ⟨rfl, rfl, rfl, trivial⟩ (.condT rfl (.seq (.keep [] trivial (.region ?_))))))
    refine .p rfl rfl (.as rfl) ?_
    refine .nil (.code ?_)
    refine .ret _ rfl ?_
    first
      | exact ⟨rfl, (Ext.then (S := (fun k => w5.heap.size ≤ k ∧ k < w31.heap.size)) (by repeat (first | exact Ext.refl _ | assumption | refine Ext.trans (by assumption) ?_)) hX (fun k h _ => by have h := h.1; omega)).trans X102⟩
      | exact ⟨rfl, (by repeat (first | exact Ext.refl _ | assumption | refine Ext.trans (by assumption) ?_))⟩
  · refine .p rfl rfl (.mv rfl) ?_
    refine .p rfl rfl (.lenS rfl rfl) ?_
    refine .p rfl rfl (.gt rfl rfl) ?_
    refine .p rfl rfl (.pickF rfl rfl) ?_
    refine .nil (.code (.keep [(25, _), (2, _), (1, _)] ⟨rfl, rfl, rfl, trivial⟩ ?_))
    refine .condD rfl (fun c25 => ?_) (fun c25 => ?_)
    · refine .seq (.keep [] trivial (.region ?_))
      refine .p rfl rfl (.as rfl) ?_
      refine .nil (.code ?_)
      refine .ret _ rfl ?_
      first
        | exact ⟨rfl, (Ext.then (S := (fun k => w5.heap.size ≤ k ∧ k < w31.heap.size)) (by repeat (first | exact Ext.refl _ | assumption | refine Ext.trans (by assumption) ?_)) hX (fun k h _ => by have h := h.1; omega)).trans X102⟩
        | exact ⟨rfl, (by repeat (first | exact Ext.refl _ | assumption | refine Ext.trans (by assumption) ?_))⟩
    · refine .skip (.code (.seq (.keep [(2, _), (1, _)] ⟨rfl, rfl, trivial⟩ (.region ?_))))
      refine .p rfl rfl (.loadA (n := 3) rfl rfl rfl rfl rfl (B2.ext (S := fun _ => False) (by repeat (first | exact Ext.refl _ | assumption | refine Ext.trans (by assumption) ?_)) (fun x => x)).cells) ?_
      refine .call (first := []) (captured := []) rfl rfl rfl rfl (refTwin_fn (disk.tDisk.ext0 h (by repeat (first | exact Ext.refl _ | assumption | refine Ext.trans (by assumption) ?_))) (by have := (largeL_not c21).2.1; omega)) ?_
      rintro r27 w27 ⟨D27, X27⟩
      have z27 := X27.size
      obtain ⟨x1, y1, x2, y2, rfl⟩ := D27.val
      have R27 := disk.tDisk.mono D27.rep (P' := fun k => k < w27.heap.size) (fun k _ h => h)
      refine .v rfl rfl (.alloc rfl rfl) ?_
      rintro _ wn5 ⟨rfl, N5⟩
      refine .s rfl (.storeAll (n := 3) rfl rfl rfl rfl rfl N5.blk rfl) ?_
      intro w5 P5
      have Y5 := N5.ext.then P5.ext (by rintro k rfl _; exact Nat.le_refl _)
      have zy5 := Y5.size
      have B5 := P5.blk
      clear P5 N5
      have lb5 := B5.lt
      refine .nil (.code (.seq (.keep [(5, _), (2, _), (1, _)] ⟨rfl, rfl, rfl, trivial⟩ (.region ?_))))
      refine .p rfl rfl (.loadA (n := 3) rfl rfl rfl rfl rfl (B5.ext (S := fun _ => False) (by repeat (first | exact Ext.refl _ | assumption | refine Ext.trans (by assumption) ?_)) (fun x => x)).cells) ?_
      refine .p rfl rfl (.mv rfl) ?_
      refine .call (first := []) (captured := []) rfl rfl rfl rfl (FileGet_fn (s := name) (allOf (disk.tDisk.ext0 R27 (by repeat (first | exact Ext.refl _ | assumption | refine Ext.trans (by assumption) ?_)))) hs (hg.ext0 (by repeat (first | exact Ext.refl _ | assumption | refine Ext.trans (by assumption) ?_)))) ?_
      rintro _ w31 ⟨v31, rfl, G31, X31⟩
      have z31 := X31.size
      have hW31 := WrB.ofO (OwnO.mono G31 (fun _ h _ => h) (B' := (fun k => w5.heap.size ≤ k ∧ k < w31.heap.size)) (fun k h hl => ⟨h, hl⟩))
      obtain ⟨a31, k31, rfl, _⟩ := OwnO.val G31
      have hlG := OwnO.lim G31
      simp only [Lim] at hlG
      refine .p rfl rfl (.mv rfl) ?_
      refine .p rfl rfl (.extract rfl rfl) ?_
      refine .p rfl rfl (.extract rfl rfl) ?_
      refine .p rfl rfl (.as rfl) ?_
      refine .p rfl rfl (.as rfl) ?_
      refine .nil (.code (.seq (.keep [(7, _), (6, _), (5, _), (2, _), (1, _)] ⟨rfl, rfl, rfl, rfl, rfl, trivial⟩ (.region ?_))))
      refine .p rfl rfl (.loadA (n := 3) rfl rfl rfl rfl rfl (B2.ext (S := fun _ => False) (by repeat (first | exact Ext.refl _ | assumption | refine Ext.trans (by assumption) ?_)) (fun x => x)).cells) ?_
      refine .p rfl rfl (.mv rfl) ?_
      refine .call (first := []) (captured := []) rfl rfl rfl rfl (refFileGet_fn (s := name) (disk.tDisk.ext0 h (by repeat (first | exact Ext.refl _ | assumption | refine Ext.trans (by assumption) ?_))) hs) ?_
      rintro _ w37 ⟨v37, rfl, G37, X37⟩
      have z37 := X37.size
      obtain ⟨a37, k37, rfl, _⟩ := OwnO.val G37
      refine .p rfl rfl (.mv rfl) ?_
      refine .p rfl rfl (.extract rfl rfl) ?_
      refine .p rfl rfl (.extract rfl rfl) ?_
      refine .p rfl rfl (.as rfl) ?_
      refine .p rfl rfl (.as rfl) ?_
      refine .nil (.code (.seq (.keep [(9, _), (8, _), (7, _), (6, _), (5, _), (2, _)] ⟨rfl, rfl, rfl, rfl, rfl, rfl, trivial⟩ (.region ?_))))
      refine .p rfl rfl (.loadA (n := 3) rfl rfl rfl rfl rfl (B5.ext (S := fun _ => False) (by repeat (first | exact Ext.refl _ | assumption | refine Ext.trans (by assumption) ?_)) (fun x => x)).cells) ?_
      refine .call (first := []) (captured := []) rfl rfl rfl rfl (Names_fn (allOf (disk.tDisk.ext0 R27 (by repeat (first | exact Ext.refl _ | assumption | refine Ext.trans (by assumption) ?_)))) (hg.ext0 (by repeat (first | exact Ext.refl _ | assumption | refine Ext.trans (by assumption) ?_)))) ?_
      rintro _ w42 ⟨v42, rfl, O42, X42⟩
      have z42 := X42.size
      obtain ⟨a42, k42, rfl, _⟩ := OwnO.val O42
      have R42 := OwnO.rep (R := All) O42 (fun _ _ _ => trivial) (fun _ h _ => h.elim)
      refine .p rfl rfl (.mv rfl) ?_
      refine .p rfl rfl (.extract rfl rfl) ?_
      refine .p rfl rfl (.extract rfl rfl) ?_
      refine .p rfl rfl (.as rfl) ?_
      refine .p rfl rfl (.as rfl) ?_
      refine .nil (.code (.seq (.keep [(11, _), (10, _), (9, _), (8, _), (7, _), (6, _), (5, _), (2, _)] ⟨rfl, rfl, rfl, rfl, rfl, rfl, rfl, rfl, trivial⟩ (.region ?_))))
      refine .p rfl rfl (.loadA (n := 3) rfl rfl rfl rfl rfl (B2.ext (S := fun _ => False) (by repeat (first | exact Ext.refl _ | assumption | refine Ext.trans (by assumption) ?_)) (fun x => x)).cells) ?_
      refine .call (first := []) (captured := []) rfl rfl rfl rfl (refNames_fn (disk.tDisk.ext0 h (by repeat (first | exact Ext.refl _ | assumption | refine Ext.trans (by assumption) ?_)))) ?_
      rintro _ w47 ⟨v47, rfl, O47, X47⟩
      have z47 := X47.size
      obtain ⟨a47, k47, rfl, _⟩ := OwnO.val O47
      have R47 := OwnO.rep (R := All) O47 (fun _ _ _ => trivial) (fun _ h _ => h.elim)
      refine .p rfl rfl (.mv rfl) ?_
      refine .p rfl rfl (.extract rfl rfl) ?_
      refine .p rfl rfl (.extract rfl rfl) ?_
      refine .p rfl rfl (.as rfl) ?_
      refine .p rfl rfl (.as rfl) ?_
      refine .nil (.code (.seq (.keep [(13, _), (12, _), (11, _), (10, _), (9, _), (8, _), (7, _), (6, _), (5, _), (2, _)] ⟨rfl, rfl, rfl, rfl, rfl, rfl, rfl, rfl, rfl, rfl, trivial⟩ (.region ?_))))
      refine .p rfl rfl (.loadA (n := 3) rfl rfl rfl rfl rfl (B5.ext (S := fun _ => False) (by repeat (first | exact Ext.refl _ | assumption | refine Ext.trans (by assumption) ?_)) (fun x => x)).cells) ?_
      refine .call (first := []) (captured := []) rfl rfl rfl rfl (Room_fn (allOf (disk.tDisk.ext0 R27 (by repeat (first | exact Ext.refl _ | assumption | refine Ext.trans (by assumption) ?_)))) (hg.ext0 (by repeat (first | exact Ext.refl _ | assumption | refine Ext.trans (by assumption) ?_)))) ?_
      rintro _ w52 ⟨rfl, X52⟩
      have z52 := X52.size
      refine .p rfl rfl (.mv rfl) ?_
      refine .p rfl rfl (.extract rfl rfl) ?_
      refine .p rfl rfl (.extract rfl rfl) ?_
      refine .p rfl rfl (.as rfl) ?_
      refine .p rfl rfl (.as rfl) ?_
      refine .nil (.code (.seq (.keep [(15, _), (14, _), (13, _), (12, _), (11, _), (10, _), (9, _), (8, _), (7, _), (6, _), (5, _), (2, _)] ⟨rfl, rfl, rfl, rfl, rfl, rfl, rfl, rfl, rfl, rfl, rfl, rfl, trivial⟩ (.region ?_))))
      refine .p rfl rfl (.loadA (n := 3) rfl rfl rfl rfl rfl (B2.ext (S := fun _ => False) (by repeat (first | exact Ext.refl _ | assumption | refine Ext.trans (by assumption) ?_)) (fun x => x)).cells) ?_
      refine .call (first := []) (captured := []) rfl rfl rfl rfl (refRoomD_fn (disk.tDisk.ext0 h (by repeat (first | exact Ext.refl _ | assumption | refine Ext.trans (by assumption) ?_)))) ?_
      rintro _ w57 ⟨rfl, X57⟩
      have z57 := X57.size
      refine .p rfl rfl (.mv rfl) ?_
      refine .p rfl rfl (.extract rfl rfl) ?_
      refine .p rfl rfl (.extract rfl rfl) ?_
      refine .p rfl rfl (.as rfl) ?_
      refine .p rfl rfl (.as rfl) ?_
      refine .nil (.code (.seq (.seq (.keep [(17, _), (16, _), (15, _), (14, _), (13, _), (12, _), (11, _), (10, _), (9, _), (8, _), (7, _), (6, _), (5, _), (2, _)] ⟨rfl, rfl, rfl, rfl, rfl, rfl, rfl, rfl, rfl, rfl, rfl, rfl, rfl, rfl, trivial⟩ (.region ?_)))))
      refine .p rfl rfl (.mv rfl) ?_
      refine .p rfl rfl (.bytesStr rfl (Gr.rep (Gr.ext0 G31 (by repeat (first | exact Ext.refl _ | assumption | refine Ext.trans (by assumption) ?_)))) rfl rfl rfl) ?_
      refine .p rfl rfl (.mv rfl) ?_
      refine .p rfl rfl (.bytesStr rfl (Gr.rep (Gr.ext0 G37 (by repeat (first | exact Ext.refl _ | assumption | refine Ext.trans (by assumption) ?_)))) rfl rfl rfl) ?_
      refine .p rfl rfl (.no (.neS rfl rfl) (fun h => h rfl)) ?_
      refine .p rfl rfl (.mv rfl) ?_
      refine .p rfl rfl (.mv rfl) ?_
      refine .p rfl rfl (.mv rfl) ?_
      refine .p rfl rfl (.no (.ne rfl rfl) (fun h => h rfl)) ?_
      refine .p rfl rfl (.pickF rfl rfl) ?_
      refine .p rfl rfl (.mv rfl) ?_
      refine .p rfl rfl (.mv rfl) ?_
      refine .p rfl rfl (.mv rfl) ?_
      refine .p rfl rfl (.no (.ne rfl rfl) (fun h => h rfl)) ?_
      refine .p rfl rfl (.pickF rfl rfl) ?_
      refine .p rfl rfl (.mv rfl) ?_
      refine .p rfl rfl (.mv rfl) ?_
      refine .p rfl rfl (.mv rfl) ?_
      refine .call (first := []) (captured := []) rfl rfl rfl rfl (refTextsT_fn (tStrs.ext0 R42 (by repeat (first | exact Ext.refl _ | assumption | refine Ext.trans (by assumption) ?_))) (tStrs.ext0 R47 (by repeat (first | exact Ext.refl _ | assumption | refine Ext.trans (by assumption) ?_)))) ?_
      rintro _ w78 ⟨rfl, X78⟩
      have z78 := X78.size
      refine .p rfl rfl (.not rfl) ?_
      refine .p rfl rfl (.pickF rfl rfl) ?_
      refine .p rfl rfl (.mv rfl) ?_
      refine .p rfl rfl (.mv rfl) ?_
      refine .p rfl rfl (.mv rfl) ?_
      refine .p rfl rfl (.no (.ne rfl rfl) (fun h => h rfl)) ?_
      refine .p rfl rfl (.pickF rfl rfl) ?_
      refine .p rfl rfl (.mv rfl) ?_
      refine .p rfl rfl (.mv rfl) ?_
      refine .p rfl rfl (.mv rfl) ?_
      refine .p rfl rfl (.no (.ne rfl rfl) (fun h => h rfl)) ?_
      refine .p rfl rfl (.pickF rfl rfl) ?_
      refine .nil (.code (.keep [(90, _), (6, _), (5, _), (2, _)] ⟨rfl, rfl, rfl, rfl, trivial⟩ (.condF rfl (.skip (.code (.seq (.seq (.keep [(6, _), (5, _), (2, _)] ⟨rfl, rfl, rfl, trivial⟩ (.region ?_)))))))))
      refine .p rfl rfl (.as rfl) ?_
      refine .nil (.code (.block ?_))
      refine .loop (S := Nat × World) (fun s => [(2, .pointer (some ⟨w.heap.size, 0, none⟩)), (5, .pointer (some ⟨w27.heap.size, 0, none⟩)), (6, .slice a31 (getF d name).1.length k31), (18, i64 s.1)]) (fun s => s.2) (fun s => s.1 ≤ (getF d name).1.length ∧ WrB s.2 (fun k => w5.heap.size ≤ k ∧ k < w31.heap.size) (.slice a31 (getF d name).1.length k31) (getF d name).1.length ∧ Ext (fun k => w5.heap.size ≤ k ∧ k < w31.heap.size) w78 s.2) (fun s => (getF d name).1.length - s.1) (0, w78) ⟨rfl, rfl, rfl, rfl, trivial⟩ rfl ⟨Nat.zero_le _, hW31.ext (S := fun _ => False) (by repeat (first | exact Ext.refl _ | assumption | refine Ext.trans (by assumption) ?_)) (fun _ _ h => h), .refl _⟩ ?_
      rintro ⟨i, wi⟩ J ⟨hi', hWi, hX⟩ again
      simp only at hi' hWi hX
      have zi := hX.size
      change G _ [(2, .pointer (some ⟨w.heap.size, 0, none⟩)), (5, .pointer (some ⟨w27.heap.size, 0, none⟩)), (6, .slice a31 (getF d name).1.length k31), (18, i64 i)] _ _ wi
      refine .seq (.seq (.region ?_))
      refine .p rfl rfl (.mv rfl) ?_
      refine .p rfl rfl (.mv rfl) ?_
      refine .p rfl rfl (.len rfl rfl) ?_
      refine .p rfl rfl (.lt rfl rfl) ?_
      refine .nil (.code (.keep [(94, _), (2, _), (5, _), (6, _), (18, _)] ⟨rfl, rfl, rfl, rfl, rfl, trivial⟩ ?_))
      refine .condD rfl (fun c94 => ?_) (fun c94 => ?_)
      · have hi : i < (getF d name).1.length := by omega
        obtain ⟨bp, ds1, rfl, hQp, hBp, hpl⟩ := hWi.blk hi
        refine .skip (.code (.seq (.block (.keep [(2, _), (5, _), (6, _), (18, _)] ⟨rfl, rfl, rfl, rfl, trivial⟩ (.region ?_)))))
        refine .p rfl rfl (.mv rfl) ?_
        refine .p rfl rfl (.mv rfl) ?_
        refine .p rfl rfl (.cast (.indexAddr1 rfl rfl rfl rfl (by omega)) (show _ = Value.pointer (some ⟨bp, i, none⟩) by simp)) ?_
        refine .s rfl (.store rfl rfl rfl rfl rfl hBp hpl) ?_
        intro wp Pp
        refine .nil (.blk (.code (.keep [(2, _), (5, _), (6, _), (18, _)] ⟨rfl, rfl, rfl, rfl, trivial⟩ (.region ?_))))
        refine .p rfl rfl (.mv rfl) ?_
        refine .p rfl rfl (.add rfl rfl (by omega)) ?_
        refine .p rfl rfl (.as rfl) ?_
        refine .nil ?_
        exact (again (i + 1, wp) ⟨by show i + 1 ≤ _; omega, hWi.put hBp Pp, hX.trans (Pp.ext.mono (by rintro k _ rfl; exact hQp))⟩ (by show _ - (i + 1) < _ - i; omega)).of ⟨rfl, rfl, rfl, rfl, trivial⟩
      · refine .exit rfl (.code (.seq (.keep [(2, _), (5, _)] ⟨rfl, rfl, trivial⟩ (.region ?_))))
        refine .p rfl rfl (.loadA (n := 3) rfl rfl rfl rfl rfl (((B5.ext (S := fun _ => False) (by repeat (first | exact Ext.refl _ | assumption | refine Ext.trans (by assumption) ?_)) (fun x => x)).ext hX (by show ¬ (w5.heap.size ≤ w27.heap.size ∧ _); omega)).cells)) ?_
        refine .p rfl rfl (.loadA (n := 3) rfl rfl rfl rfl rfl (((B2.ext (S := fun _ => False) (by repeat (first | exact Ext.refl _ | assumption | refine Ext.trans (by assumption) ?_)) (fun x => x)).ext hX (by show ¬ (w5.heap.size ≤ w.heap.size ∧ _); omega)).cells)) ?_
        refine .call (first := []) (captured := []) rfl rfl rfl rfl (refSameT_fn (allOf (disk.tDisk.ext (disk.tDisk.ext0 R27 (by repeat (first | exact Ext.refl _ | assumption | refine Ext.trans (by assumption) ?_))) hX (fun k hk _ e => by have hk : k < w27.heap.size := hk; have e : w5.heap.size ≤ k ∧ _ := e; omega))) (allOf (disk.tDisk.ext (disk.tDisk.ext0 R0 (by repeat (first | exact Ext.refl _ | assumption | refine Ext.trans (by assumption) ?_))) hX (fun k hk _ e => by have hk : k < w.heap.size := hk; have e : w5.heap.size ≤ k ∧ _ := e; omega)))) ?_
        rintro _ w102 ⟨rfl, X102⟩
        have z102 := X102.size
        refine .p rfl rfl (.as rfl) ?_
        refine .nil (.code ?_)
        refine .ret _ rfl ?_
        first
          | exact ⟨rfl, (Ext.then (S := (fun k => w5.heap.size ≤ k ∧ k < w31.heap.size)) (by repeat (first | exact Ext.refl _ | assumption | refine Ext.trans (by assumption) ?_)) hX (fun k h _ => by have h := h.1; omega)).trans X102⟩
          | exact ⟨rfl, (by repeat (first | exact Ext.refl _ | assumption | refine Ext.trans (by assumption) ?_))⟩
end Go.Proofs.YtpfehnopghffjaaGreatDoor
