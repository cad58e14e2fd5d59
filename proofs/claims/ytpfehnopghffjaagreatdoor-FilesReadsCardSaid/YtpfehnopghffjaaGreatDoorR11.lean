import Derived.Test.YtpfehnopghffjaaGreatDoorR10
import Derived.Shelf.SlSortCmp.WholeK
import Derived.Shelf.SlSortCmp.NoneTotal
import Derived.Lib.Bytealg
import Derived.Test.YtpfehnopghffjaaGreatDoorProg
set_option linter.unusedVariables false
set_option linter.unusedSimpArgs false
set_option maxRecDepth 20000
namespace Go.Proofs.YtpfehnopghffjaaGreatDoor
open Go
open room files
theorem own_cutB {w : World} {E : TypeId} {B : Nat → Prop} {a : Option Addr} {n cap : Nat} {l : Bs} (h : OwnO tByte (fun _ => False) E w (.slice a n cap) l B) {k : Nat} (hk : k ≤ n) : OwnO tByte (fun _ => False) E w (cutV 1 a cap 0 k) (l.take k) B := by
  rcases h with ⟨rfl, e⟩ | ⟨b, hb, hlt, hl, ⟨rfl, e⟩ | ⟨c, us, sp, e, hc, he, hB, hn⟩⟩
  · cases e
    obtain rfl : k = 0 := by omega
    exact .inl ⟨rfl, rfl⟩
  · cases e
    obtain rfl : k = 0 := by omega
    exact .inl ⟨rfl, rfl⟩
  · cases e
    obtain rfl : us = l.map u8 := Each.eq_map u8 he
    have ev : cutV 1 (some ⟨b, 0, none⟩) cap 0 k = .slice (some ⟨b, 0, none⟩) (l.take k).length cap := by
      unfold cutV
      rw [List.length_take, Nat.min_eq_left hk]
      congr 1
      split
      · rfl
      · simp [Addr.add]
    rw [ev]
    rw [flat_u8] at hB hn
    have e2 : (l.take k).map u8 ++ ((l.drop k).map u8 ++ sp) = l.map u8 ++ sp := by rw [← List.append_assoc, ← List.map_append, List.take_append_drop]
    refine .inr ⟨b, hb, hlt, by rw [List.length_take]; exact Nat.lt_of_le_of_lt (Nat.min_le_right _ _) hl, .inr ⟨cap, (l.take k).map u8, (l.drop k).map u8 ++ sp, rfl, by rw [List.length_take]; omega, each_u8 _, ?_, ?_⟩⟩
    · rw [flat_u8, e2]; exact hB
    · rw [flat_u8, e2]; exact hn
namespace files
theorem sectE_length (l : List Piece) : (sectE l).length ≤ 4096 := by
  unfold sectE
  split
  · rename_i h
    have hm := (check_ok h).2.2.2
    have h1 := sect_total (may_pos hm)
    have h2 := (may_length (n := 4096) hm).2
    omega
  · exact Nat.zero_le _
theorem find_pos {x : Dir} {s : Bs} (h : ¬ findF x s < 0) : ∃ i, ∃ hi : i < x.fs.length, findF x s = (i : Int) := by
  have key : ∀ (l : List File) (k : Int), 0 ≤ k → ¬ findTo s l k < 0 → ∃ i, i < l.length ∧ findTo s l k = k + (i : Int) := by
    intro l
    induction l with
    | nil => intro k _ h; exact absurd (show findTo s [] k < 0 by rw [findTo]; decide) h
    | cons f l ih =>
      intro k hk h
      rw [findTo] at h ⊢
      by_cases he : f.name = s
      · rw [if_pos he]; exact ⟨0, by simp, by simp⟩
      · rw [if_neg he] at h ⊢
        obtain ⟨i, hi, e⟩ := ih (k + 1) (by omega) h
        exact ⟨i + 1, by simpa using hi, by rw [e]; push_cast; omega⟩
  obtain ⟨i, hi, e⟩ := key x.fs 0 (by omega) h
  exact ⟨i, hi, by unfold findF; rw [e]; omega⟩
theorem sect_in {d : Disk} (hm : (mountF d).2.2 = 0) {f : File} (hf : f ∈ (mountF d).1.fs) {n : Int} (hn : n ∈ sectE f.ps) : 0 ≤ n ∧ n < d.count := by
  obtain ⟨_, _, _, hmay, hck, _⟩ := mount_may hm
  have hmp := (check_ok hck).2.2.2
  obtain ⟨q, hq, h1, h2⟩ := (sect_mem (may_pos hmp)).1 (sectE_sub hf hn)
  have h3 := hmp.1 q hq
  unfold okP at h3
  omega
theorem mount_32 (d : Disk) : (mountF d).1.fs.length ≤ 32 := by
  by_cases h : (mountF d).2.2 = 0
  · exact (mount_may h).2.2.1
  · rw [(mountF_bad h).1]; exact Nat.zero_le _
theorem sect_many {x : Dir} (hm : mayD x) {i : Nat} (hi : i < x.fs.length) : ((sectE x.fs[i].ps).length : Int) = needF x.fs[i].size ∧ 0 ≤ x.fs[i].size := by
  have ho := hm.2.2.2 i hi
  have h0 := ho.2.2.1
  refine ⟨?_, h0⟩
  rw [← ho.2.2.2.2, manyF_eq]
  unfold sectE
  split
  · rename_i h
    exact sect_total (may_pos (check_ok h).2.2.2)
  · rfl
theorem free_check (a c : Int) (l : List Piece) : checkR 4096 (freeL a c l) = 0 := by
  by_cases h : freeE a c l = 0
  · obtain ⟨h1, h2, h3, h4⟩ := freeE_in h
    rw [freeL_ok h]
    have hr := runs_may (f := fun k => !covB l k) (a := a.toNat) (n := c.toNat - a.toNat) (N := 4096) (by omega) _ rfl
    exact (may_check (N := 4096) (by omega) hr).2
  · rw [freeL_bad h]; decide
theorem getF_m {d : Disk} {s : Bs} (h : ¬ (mountF d).2.2 = 0) : getF d s = ([], (mountF d).2.2) := by unfold getF; rw [if_pos h]
theorem getF_5 {d : Disk} {s : Bs} (h : (mountF d).2.2 = 0) (h2 : ¬ nameF s = true) : getF d s = ([], 5) := by unfold getF; rw [if_neg (fun x => x h), if_pos h2]
theorem getF_6 {d : Disk} {s : Bs} (h : (mountF d).2.2 = 0) (h2 : nameF s = true) (h3 : findF (mountF d).1 s < 0) : getF d s = ([], 6) := by unfold getF; rw [if_neg (fun x => x h), if_neg (fun x => x h2), if_pos h3]
theorem getF_0 {d : Disk} {s : Bs} (h : (mountF d).2.2 = 0) (h2 : nameF s = true) {i : Nat} (hi : i < (mountF d).1.fs.length) (h3 : findF (mountF d).1 s = (i : Int)) : getF d s = (bytesF d (mountF d).1.fs[i], 0) := by
  unfold getF
  rw [if_neg (fun x => x h), if_neg (fun x => x h2), h3, if_neg (by omega), Int.toNat_natCast, List.getD_eq_getElem?_getD, List.getElem?_eq_getElem hi]
  rfl
theorem flat_step (f : Int → Bs) {l : List Int} {i : Nat} (hi : i < l.length) : (l.take (i + 1)).flatMap f = (l.take i).flatMap f ++ f l[i] := ints_step hi f
theorem roomF_m {d : Disk} (h : ¬ (mountF d).2.2 = 0) : roomF d = (0, (mountF d).2.2) := by unfold roomF; rw [if_pos h]
theorem roomF_0 {d : Disk} (h : (mountF d).2.2 = 0) : roomF d = (totalF (freeL 80 d.count (allP (mountF d).1.fs)), 0) := by unfold roomF; rw [if_neg (fun x => x h)]
end files
attribute [local irreducible] readD slotB slotF mountF slotOK checkR disk.readF findTo findF writeF nameF sectE bytesF
theorem FileGet_fn {w : World} {v : Value} {d : Disk} {s : Bs} (h : disk.tDisk.rep All w v d) (hs : s.length < Lim) (hg : GOK w) : Fn Tryz.prog 19 [v, str s] w (fun r w2 => ∃ v', r = .tuple #[v', i64 (getF d s).2] ∧ Gr w2 v' (getF d s).1 w.heap.size ∧ Ext (fun _ => False) w w2) := by
  have h0 := h
  obtain ⟨u, u', rfl, hd1, hd2, hdc⟩ := disk.tDisk.val h
  obtain ⟨a1, k1, rfl, _⟩ := Sl.val hd1
  obtain ⟨a2, k2, rfl, _⟩ := Sl.val hd2
  refine Fn.enter (fun w => Tryz.call19 _ w) Tryz.func19 rfl ?_
  refine .seq (.region ?_)
  refine .v rfl rfl (.box rfl) ?_
  rintro _ w2 ⟨rfl, N2⟩
  have B2 := N2.blk
  have X2 := N2.ext
  have z2 := N2.size
  refine .p rfl rfl (.as rfl) ?_
  refine .p rfl rfl (.as rfl) ?_
  refine .nil (.code (.seq (.keep [(2, _), (1, _)] ⟨rfl, rfl, trivial⟩ (.region ?_))))
  refine .p rfl rfl (.loadA (n := 3) rfl rfl rfl rfl rfl (B2.ext (S := fun _ => False) (by repeat (first | exact Ext.refl _ | assumption | refine Ext.trans (by assumption) ?_)) (fun x => x)).cells) ?_
  refine .call (first := []) (captured := []) rfl rfl rfl rfl (Mount_fn (disk.tDisk.ext0 h0 (by repeat (first | exact Ext.refl _ | assumption | refine Ext.trans (by assumption) ?_))) (hg.ext0 (by repeat (first | exact Ext.refl _ | assumption | refine Ext.trans (by assumption) ?_)))) ?_
  rintro _ w18 ⟨u18, rfl, R18, X18⟩
  have z18 := X18.size
  obtain ⟨af, kf, rfl, hf, hgen⟩ := tDir.val R18
  refine .p rfl rfl (.mv rfl) ?_
  refine .p rfl rfl (.extract rfl rfl) ?_
  refine .p rfl rfl (.extract rfl rfl) ?_
  refine .v rfl rfl (.alloc rfl rfl) ?_
  rintro _ wn6 ⟨rfl, N6⟩
  refine .s rfl (.storeAll (n := 2) rfl rfl rfl rfl rfl N6.blk rfl) ?_
  intro w6 P6
  have Y6 := N6.ext.then P6.ext (by rintro k rfl _; exact Nat.le_refl _)
  have zy6 := Y6.size
  have B6 := P6.blk
  clear P6 N6
  refine .p rfl rfl (.as rfl) ?_
  refine .nil (.code (.seq (.seq (.keep [(7, _), (6, _), (2, _), (1, _)] ⟨rfl, rfl, rfl, rfl, trivial⟩ (.region ?_)))))
  refine .p rfl rfl (.mv rfl) ?_
  refine .p rfl rfl (.ne rfl rfl) ?_
  refine .nil (.code (.keep [(22, _), (7, _), (6, _), (2, _), (1, _)] ⟨rfl, rfl, rfl, rfl, rfl, trivial⟩ ?_))
  refine .condD rfl (fun c22 => ?_) (fun c22 => ?_)
  · refine .seq (.keep [(7, _)] ⟨rfl, trivial⟩ (.region ?_))
    refine .p rfl rfl (.mv rfl) ?_
    refine .p rfl rfl (.as rfl) ?_
    refine .p rfl rfl (.as rfl) ?_
    refine .nil (.code ?_)
    refine .ret _ rfl ?_
    rw [getF_m c22]
    exact ⟨_, rfl, OwnO.nil, (by repeat (first | exact Ext.refl _ | assumption | refine Ext.trans (by assumption) ?_))⟩
  · have hm : (mountF d).2.2 = 0 := Decidable.not_not.1 c22
    obtain ⟨hck, h96, _, hmay, hckr, hup⟩ := mount_may hm
    refine .skip (.code (.seq (.seq (.keep [(6, _), (2, _), (1, _)] ⟨rfl, rfl, rfl, trivial⟩ (.region ?_)))))
    refine .p rfl rfl (.mv rfl) ?_
    refine .call (first := []) (captured := []) rfl rfl rfl rfl (name_fn hs) ?_
    rintro _ w25 ⟨rfl, X25⟩
    have z25 := X25.size
    refine .p rfl rfl (.not rfl) ?_
    refine .nil (.code (.keep [(26, _), (6, _), (2, _), (1, _)] ⟨rfl, rfl, rfl, rfl, trivial⟩ ?_))
    refine .cond rfl (fun c26 => ?_) (fun c26 => ?_)
    · refine .seq (.keep [] trivial (.region ?_))
      refine .p rfl rfl (.as rfl) ?_
      refine .p rfl rfl (.as rfl) ?_
      refine .nil (.code ?_)
      refine .ret _ rfl ?_
      rw [getF_5 hm (by simpa using c26)]
      exact ⟨_, rfl, OwnO.nil, (by repeat (first | exact Ext.refl _ | assumption | refine Ext.trans (by assumption) ?_))⟩
    · have hnm : nameF s = true := by simpa using c26
      refine .skip (.code (.seq (.keep [(6, _), (2, _), (1, _)] ⟨rfl, rfl, rfl, trivial⟩ (.region ?_))))
      refine .p rfl rfl (.loadA (n := 2) rfl rfl rfl rfl rfl (B6.ext (S := fun _ => False) (by repeat (first | exact Ext.refl _ | assumption | refine Ext.trans (by assumption) ?_)) (fun x => x)).cells) ?_
      refine .p rfl rfl (.mv rfl) ?_
      refine .call (first := []) (captured := []) rfl rfl rfl rfl (find_fn (x := (mountF d).1) (s := s) (allOf (tDir.ext0 R18 (by repeat (first | exact Ext.refl _ | assumption | refine Ext.trans (by assumption) ?_))))) ?_
      rintro _ w29 ⟨rfl, X29⟩
      have z29 := X29.size
      refine .p rfl rfl (.as rfl) ?_
      refine .nil (.code (.seq (.seq (.keep [(8, _), (6, _), (2, _)] ⟨rfl, rfl, rfl, trivial⟩ (.region ?_)))))
      refine .p rfl rfl (.mv rfl) ?_
      refine .p rfl rfl (.lt rfl rfl) ?_
      refine .nil (.code (.keep [(31, _), (8, _), (6, _), (2, _)] ⟨rfl, rfl, rfl, rfl, trivial⟩ ?_))
      refine .condD rfl (fun c31 => ?_) (fun c31 => ?_)
      · refine .seq (.keep [] trivial (.region ?_))
        refine .p rfl rfl (.as rfl) ?_
        refine .p rfl rfl (.as rfl) ?_
        refine .nil (.code ?_)
        refine .ret _ rfl ?_
        rw [getF_6 hm hnm c31]
        exact ⟨_, rfl, OwnO.nil, (by repeat (first | exact Ext.refl _ | assumption | refine Ext.trans (by assumption) ?_))⟩
      · obtain ⟨i, hi, hfi⟩ := find_pos c31
        rw [hfi]
        obtain ⟨b1, o1, q1, ue1, e1, _, hcs, hre⟩ := Sl.at hf (List.getElem?_eq_getElem hi)
        cases e1
        obtain ⟨fa1, fc1, rfl, hps, hnm1, hsz1⟩ := tFile.val hre
        obtain ⟨hmany, hsz0⟩ := sect_many hmay hi
        unfold needF at hmany
        refine .skip (.code (.seq (.keep [(8, _), (6, _), (2, _)] ⟨rfl, rfl, rfl, trivial⟩ (.region ?_))))
        refine .p rfl rfl (.as rfl) ?_
        refine .nil (.code (.seq (.region ?_)))
        refine .p rfl rfl (.fieldAddr rfl rfl rfl rfl) ?_
        refine .p rfl rfl (.load rfl rfl rfl ((B6.ext (S := fun _ => False) (by repeat (first | exact Ext.refl _ | assumption | refine Ext.trans (by assumption) ?_)) (fun x => x)).cell 1)) ?_
        refine .p rfl rfl (.mv rfl) ?_
        refine .p rfl rfl (.indexAddr (s := 3) rfl rfl rfl rfl (by omega)) ?_
        refine .p rfl rfl (.fieldAddr rfl rfl rfl rfl) ?_
        refine .p rfl rfl (.load rfl rfl rfl ((hcs.ext (S := fun _ => False) (by repeat (first | exact Ext.refl _ | assumption | refine Ext.trans (by assumption) ?_)) (fun x => x)) 2 _ rfl)) ?_
        refine .call (first := []) (captured := []) rfl rfl rfl rfl (Sectors_fn (allOf ((Sl tPiece).ext0 hps (by repeat (first | exact Ext.refl _ | assumption | refine Ext.trans (by assumption) ?_))))) ?_
        rintro _ w39 ⟨v39, rfl, O39, X39⟩
        have z39 := X39.size
        have O39 : OwnO tInt (fun _ => False) 3 w39 v39 (sectE (mountF d).1.fs[i].ps) (fun k => w29.heap.size ≤ k) := by unfold sectE; exact O39
        have hsl := sectE_length (mountF d).1.fs[i].ps
        obtain ⟨aS, kS, rfl, hkS⟩ := OwnO.val O39
        have hS := OwnO.rep (R := All) O39 (fun _ _ _ => trivial) (fun _ h _ => h.elim)
        refine .p rfl rfl (.mv rfl) ?_
        refine .p rfl rfl (.extract rfl rfl) ?_
        refine .p rfl rfl (.extract rfl rfl) ?_
        refine .p rfl rfl (.as rfl) ?_
        refine .p rfl rfl (.as rfl) ?_
        refine .nil (.code (.seq (.seq (.keep [(10, _), (9, _), (8, _), (6, _), (2, _)] ⟨rfl, rfl, rfl, rfl, rfl, trivial⟩ (.region ?_)))))
        refine .p rfl rfl (.mv rfl) ?_
        refine .p rfl rfl (.len rfl rfl) ?_
        refine .p rfl rfl (.mv rfl) ?_
        refine .nil (.code (.block (.keep [(44, _), (43, _), (42, _), (9, _), (8, _), (6, _), (2, _)] ⟨rfl, rfl, rfl, rfl, rfl, rfl, rfl, trivial⟩ ?_)))
        refine .loop (S := Nat × Bs × Value × World) (fun s => [(2, .pointer (some ⟨w.heap.size, 0, none⟩)), (6, .pointer (some ⟨w18.heap.size, 0, none⟩)), (8, i64 (i : Nat)), (9, s.2.2.1), (42, .slice aS (sectE (mountF d).1.fs[i].ps).length kS), (43, i64 (sectE (mountF d).1.fs[i].ps).length), (44, i64 s.1)]) (fun s => s.2.2.2) (fun s => s.1 ≤ (sectE (mountF d).1.fs[i].ps).length ∧ s.2.1 = ((sectE (mountF d).1.fs[i].ps).take s.1).flatMap (fun n => disk.readF d n) ∧ s.2.1.length = s.1 * 128 ∧ Gr s.2.2.2 s.2.2.1 s.2.1 w39.heap.size ∧ Ext (fun _ => False) w39 s.2.2.2) (fun s => (sectE (mountF d).1.fs[i].ps).length - s.1) (0, [], .slice none 0 0, w39) ⟨rfl, rfl, rfl, rfl, rfl, rfl, rfl, trivial⟩ rfl ⟨Nat.zero_le _, rfl, rfl, OwnO.nil, .refl _⟩ ?_
        rintro ⟨j, acc, vi, wi⟩ J ⟨hj', ha, hal, hO, hX⟩ again
        simp only at hj' ha hal hO hX
        have zi := hX.size
        change G _ [(2, .pointer (some ⟨w.heap.size, 0, none⟩)), (6, .pointer (some ⟨w18.heap.size, 0, none⟩)), (8, i64 (i : Nat)), (9, vi), (42, .slice aS (sectE (mountF d).1.fs[i].ps).length kS), (43, i64 (sectE (mountF d).1.fs[i].ps).length), (44, i64 j)] _ _ wi
        refine .seq (.region ?_)
        refine .p rfl rfl (.lt rfl rfl) ?_
        refine .nil (.code (.seq ?_))
        refine .condD rfl (fun c45 => ?_) (fun c45 => ?_)
        · have hj : j < (sectE (mountF d).1.fs[i].ps).length := by omega
          obtain ⟨bs, os, e, _, hci, hri⟩ := Sl.intAt (tInts.ext0 hS hX) hj
          cases e
          have hin := sect_in hm (List.getElem_mem hi) (List.getElem_mem hj)
          have hrl := fread_length hck hin.1 hin.2
          refine .skip (.code (.seq (.block (.seq (.keep [(2, _), (6, _), (8, _), (9, _), (42, _), (43, _), (44, _)] ⟨rfl, rfl, rfl, rfl, rfl, rfl, rfl, trivial⟩ (.region ?_))))))
          refine .p rfl rfl (.indexAddr1 rfl rfl rfl rfl (by omega)) ?_
          refine .p rfl rfl (.load rfl rfl rfl hci) ?_
          refine .p rfl rfl (.as rfl) ?_
          refine .nil (.code (.seq (.keep [(13, _), (2, _), (6, _), (8, _), (9, _), (42, _), (43, _), (44, _)] ⟨rfl, rfl, rfl, rfl, rfl, rfl, rfl, rfl, trivial⟩ (.region ?_))))
          refine .p rfl rfl (.loadA (n := 3) rfl rfl rfl rfl rfl (B2.ext (S := fun _ => False) (by repeat (first | exact Ext.refl _ | assumption | refine Ext.trans (by assumption) ?_)) (fun x => x)).cells) ?_
          refine .p rfl rfl (.mv rfl) ?_
          refine .call (first := []) (captured := []) rfl rfl rfl rfl (Read0_fn (n := (sectE (mountF d).1.fs[i].ps)[j]) (disk.tDisk.ext0 h0 (by repeat (first | exact Ext.refl _ | assumption | refine Ext.trans (by assumption) ?_))) (disk.asked_of hck hin.1 hin.2)) ?_
          rintro _ w51 ⟨v51, rfl, R51, X51⟩
          have z51 := X51.size
          refine .p rfl rfl (.mv rfl) ?_
          refine .p rfl rfl (.extract rfl rfl) ?_
          refine .p rfl rfl (.extract rfl rfl) ?_
          refine .p rfl rfl (.as rfl) ?_
          refine .p rfl rfl (.as rfl) ?_
          refine .nil (.code (.keep [(14, _), (2, _), (6, _), (8, _), (9, _), (42, _), (43, _), (44, _)] ⟨rfl, rfl, rfl, rfl, rfl, rfl, rfl, rfl, trivial⟩ (.region ?_)))
          refine .p rfl rfl (.mv rfl) ?_
          refine .p rfl rfl (.mv rfl) ?_
          refine .v rfl rfl (.appendLo (t := tByte) (eb := 1) rfl (OwnO.ext0 hO X51) (fun k hk => by show w39.heap.size ≤ k; omega) rfl (Gr.holds R51) rfl rfl rfl rfl rfl rfl rfl (by omega) (by simp only [Lim]; omega) (fun _ h _ => h.elim)) ?_
          rintro v56 w56 ⟨O56, A56⟩
          have z56 := A56.size
          refine .p rfl rfl (.as rfl) ?_
          refine .nil (.blk (.code (.keep [(9, _), (2, _), (6, _), (8, _), (42, _), (43, _), (44, _)] ⟨rfl, rfl, rfl, rfl, rfl, rfl, rfl, trivial⟩ (.region ?_))))
          refine .p rfl rfl (.add rfl rfl (by omega)) ?_
          refine .p rfl rfl (.mv rfl) ?_
          refine .nil ?_
          exact (again (j + 1, acc ++ disk.readF d (sectE (mountF d).1.fs[i].ps)[j], v56, w56) ⟨by show j + 1 ≤ _; omega, by show _ = _; rw [flat_step _ hj, ha], by show (acc ++ _).length = (j + 1) * 128; rw [List.length_append]; omega, O56, (hX.trans X51).then A56 (fun k h _ => h)⟩ (by show _ - (j + 1) < _ - j; omega)).of ⟨rfl, rfl, rfl, rfl, rfl, rfl, rfl, trivial⟩
        · obtain rfl : j = (sectE (mountF d).1.fs[i].ps).length := by omega
          rw [List.take_length] at ha
          obtain ⟨ab, kb, rfl, hkb⟩ := OwnO.val hO
          refine .exit rfl (.code (.seq (.keep [(6, _), (8, _), (9, _)] ⟨rfl, rfl, rfl, trivial⟩ (.region ?_))))
          refine .p rfl rfl (.mv rfl) ?_
          refine .p rfl rfl (.fieldAddr rfl rfl rfl rfl) ?_
          refine .p rfl rfl (.load rfl rfl rfl ((B6.ext (S := fun _ => False) (by repeat (first | exact Ext.refl _ | assumption | refine Ext.trans (by assumption) ?_)) (fun x => x)).cell 1)) ?_
          refine .p rfl rfl (.mv rfl) ?_
          refine .p rfl rfl (.indexAddr (s := 3) rfl rfl rfl rfl (by omega)) ?_
          refine .p rfl rfl (.fieldAddr rfl rfl rfl rfl) ?_
          refine .p rfl rfl (.load rfl rfl rfl ((hcs.ext (S := fun _ => False) (by repeat (first | exact Ext.refl _ | assumption | refine Ext.trans (by assumption) ?_)) (fun x => x)) 1 _ rfl)) ?_
          refine .p rfl rfl (.cutHi (s := 1) rfl rfl rfl rfl (by omega)) ?_
          refine .p rfl rfl (.as rfl) ?_
          refine .p rfl rfl (.as rfl) ?_
          refine .nil (.code ?_)
          refine .ret _ rfl ?_
          rw [getF_0 hm hnm hi hfi]
          refine ⟨_, rfl, ?_, (by repeat (first | exact Ext.refl _ | assumption | refine Ext.trans (by assumption) ?_))⟩
          show Gr wi _ (bytesF d (mountF d).1.fs[i]) _
          unfold bytesF
          rw [← ha]
          exact OwnO.mono (own_cutB hO (by omega)) (fun _ h _ => h) (fun k h _ => by have h : w39.heap.size ≤ k := h; show w.heap.size ≤ k; omega)
theorem Names_fn {w : World} {v : Value} {d : Disk} (h : disk.tDisk.rep All w v d) (hg : GOK w) : Fn Tryz.prog 21 [v] w (fun r w2 => ∃ v', r = .tuple #[v', i64 (namesF d).2] ∧ OwnO tStr (fun _ => False) 9 w2 v' (namesF d).1 (fun k => w.heap.size ≤ k) ∧ Ext (fun _ => False) w w2) := by
  have h0 := h
  obtain ⟨u, u', rfl, hd1, hd2, hdc⟩ := disk.tDisk.val h
  obtain ⟨a1, k1, rfl, _⟩ := Sl.val hd1
  obtain ⟨a2, k2, rfl, _⟩ := Sl.val hd2
  refine Fn.enter (fun w => Tryz.call21 _ w) Tryz.func21 rfl ?_
  refine .seq (.region ?_)
  refine .v rfl rfl (.box rfl) ?_
  rintro _ w1 ⟨rfl, N1⟩
  have B1 := N1.blk
  have X1 := N1.ext
  have z1 := N1.size
  refine .p rfl rfl (.as rfl) ?_
  refine .p rfl rfl (.as rfl) ?_
  refine .nil (.code (.seq (.keep [(1, _)] ⟨rfl, trivial⟩ (.region ?_))))
  refine .p rfl rfl (.loadA (n := 3) rfl rfl rfl rfl rfl (B1.ext (S := fun _ => False) (by repeat (first | exact Ext.refl _ | assumption | refine Ext.trans (by assumption) ?_)) (fun x => x)).cells) ?_
  refine .call (first := []) (captured := []) rfl rfl rfl rfl (Mount_fn (disk.tDisk.ext0 h0 (by repeat (first | exact Ext.refl _ | assumption | refine Ext.trans (by assumption) ?_))) (hg.ext0 (by repeat (first | exact Ext.refl _ | assumption | refine Ext.trans (by assumption) ?_)))) ?_
  rintro _ w11 ⟨u11, rfl, R11, X11⟩
  have z11 := X11.size
  obtain ⟨af, kf, rfl, hf, hgen⟩ := tDir.val R11
  refine .p rfl rfl (.mv rfl) ?_
  refine .p rfl rfl (.extract rfl rfl) ?_
  refine .p rfl rfl (.extract rfl rfl) ?_
  refine .v rfl rfl (.alloc rfl rfl) ?_
  rintro _ wn4 ⟨rfl, N4⟩
  refine .s rfl (.storeAll (n := 2) rfl rfl rfl rfl rfl N4.blk rfl) ?_
  intro w4 P4
  have Y4 := N4.ext.then P4.ext (by rintro k rfl _; exact Nat.le_refl _)
  have zy4 := Y4.size
  have B4 := P4.blk
  clear P4 N4
  refine .p rfl rfl (.as rfl) ?_
  refine .nil (.code (.seq (.keep [(5, _), (4, _)] ⟨rfl, rfl, trivial⟩ (.region ?_))))
  refine .p rfl rfl (.as rfl) ?_
  refine .nil (.code (.seq (.seq (.region ?_))))
  refine .p rfl rfl (.fieldAddr rfl rfl rfl rfl) ?_
  refine .p rfl rfl (.load rfl rfl rfl ((B4.ext (S := fun _ => False) (by repeat (first | exact Ext.refl _ | assumption | refine Ext.trans (by assumption) ?_)) (fun x => x)).cell 1)) ?_
  refine .p rfl rfl (.len rfl rfl) ?_
  refine .p rfl rfl (.mv rfl) ?_
  refine .nil (.code (.block (.keep [(17, _), (16, _), (15, _), (6, _), (5, _)] ⟨rfl, rfl, rfl, rfl, rfl, trivial⟩ ?_)))
  refine .loop (S := Nat × List Bs × Value × World) (fun s => [(5, i64 (mountF d).2.2), (6, s.2.2.1), (15, .slice af (mountF d).1.fs.length kf), (16, i64 (mountF d).1.fs.length), (17, i64 s.1)]) (fun s => s.2.2.2) (fun s => s.1 ≤ (mountF d).1.fs.length ∧ s.2.1 = ((mountF d).1.fs.take s.1).map (·.name) ∧ OwnO tStr (fun _ => False) 9 s.2.2.2 s.2.2.1 s.2.1 (fun k => w4.heap.size ≤ k) ∧ Ext (fun _ => False) w4 s.2.2.2) (fun s => (mountF d).1.fs.length - s.1) (0, [], .slice none 0 0, w4) ⟨rfl, rfl, rfl, rfl, rfl, trivial⟩ rfl ⟨Nat.zero_le _, rfl, OwnO.nil, .refl _⟩ ?_
  rintro ⟨i, acc, vi, wi⟩ J ⟨hi', ha, hO, hX⟩ again
  simp only at hi' ha hO hX
  have zi := hX.size
  have hal : acc.length = i := by rw [ha, List.length_map, List.length_take]; omega
  change G _ [(5, i64 (mountF d).2.2), (6, vi), (15, .slice af (mountF d).1.fs.length kf), (16, i64 (mountF d).1.fs.length), (17, i64 i)] _ _ wi
  refine .seq (.region ?_)
  refine .p rfl rfl (.lt rfl rfl) ?_
  refine .nil (.code (.seq ?_))
  refine .condD rfl (fun c18 => ?_) (fun c18 => ?_)
  · have hi : i < (mountF d).1.fs.length := by omega
    obtain ⟨b1, o1, q1, ue1, e1, _, hcs, hre⟩ := Sl.at hf (List.getElem?_eq_getElem hi)
    cases e1
    obtain ⟨fa1, fc1, rfl, hps, hnm1, hsz1⟩ := tFile.val hre
    have hlim := mount_32 d
    refine .skip (.code (.seq (.block (.seq (.keep [(5, _), (6, _), (15, _), (16, _), (17, _)] ⟨rfl, rfl, rfl, rfl, rfl, trivial⟩ (.region ?_))))))
    refine .p rfl rfl (.indexAddr (s := 3) rfl rfl rfl rfl (by omega)) ?_
    refine .p rfl rfl (.loadA (n := 3) rfl rfl rfl rfl rfl (hcs.ext (S := fun _ => False) (by repeat (first | exact Ext.refl _ | assumption | refine Ext.trans (by assumption) ?_)) (fun x => x))) ?_
    refine .v rfl rfl (.alloc rfl rfl) ?_
    rintro _ wn8 ⟨rfl, N8⟩
    refine .s rfl (.storeAll (n := 3) rfl rfl rfl rfl rfl N8.blk rfl) ?_
    intro w8 P8
    have Y8 := N8.ext.then P8.ext (by rintro k rfl _; exact Nat.le_refl _)
    have zy8 := Y8.size
    have B8 := P8.blk
    clear P8 N8
    refine .nil (.code (.keep [(8, _), (5, _), (6, _), (15, _), (16, _), (17, _)] ⟨rfl, rfl, rfl, rfl, rfl, rfl, trivial⟩ (.region ?_)))
    refine .p rfl rfl (.mv rfl) ?_
    refine .p rfl rfl (.fieldAddr rfl rfl rfl rfl) ?_
    refine .p rfl rfl (.load rfl rfl rfl (B8.cell 0)) ?_
    refine .v rfl rfl (.lits rfl rfl (fun _ => by kernel_rfl)) ?_
    rintro _ w24 ⟨rfl, N24⟩
    have z24 := N24.size
    have X24 := N24.ext
    refine .v rfl rfl (.appendLo (t := tStr) (xs := acc) (ys := [(mountF d).1.fs[i].name]) (eb := 16) rfl (OwnO.ext0 hO (by repeat (first | exact Ext.refl _ | assumption | refine Ext.trans (by assumption) ?_))) (fun k hk => by show w4.heap.size ≤ k; omega) rfl (.inr (New.holds (t := tStr) (us := [_]) (xs := [(mountF d).1.fs[i].name]) N24 (.cons ⟨rfl, hnm1⟩ .nil) rfl)) rfl rfl rfl rfl rfl rfl rfl (by simp; omega) (by simp [Lim]; omega) (fun _ h _ => h.elim)) ?_
    rintro v25 w25 ⟨O25, A25⟩
    have z25 := A25.size
    refine .p rfl rfl (.as rfl) ?_
    refine .nil (.blk (.code (.keep [(6, _), (5, _), (15, _), (16, _), (17, _)] ⟨rfl, rfl, rfl, rfl, rfl, trivial⟩ (.region ?_))))
    refine .p rfl rfl (.add rfl rfl (by omega)) ?_
    refine .p rfl rfl (.mv rfl) ?_
    refine .nil ?_
    exact (again (i + 1, acc ++ [(mountF d).1.fs[i].name], v25, w25) ⟨by show i + 1 ≤ _; omega, by show _ = _; rw [List.take_succ_eq_append_getElem hi, List.map_append, ha]; rfl, O25, ((hX.trans Y8).trans X24).then A25 (fun k h _ => h)⟩ (by show _ - (i + 1) < _ - i; omega)).of ⟨rfl, rfl, rfl, rfl, rfl, trivial⟩
  · obtain rfl : i = (mountF d).1.fs.length := by omega
    rw [List.take_length] at ha
    refine .exit rfl (.code (.seq (.keep [(5, _), (6, _)] ⟨rfl, rfl, trivial⟩ (.region ?_))))
    refine .p rfl rfl (.mv rfl) ?_
    refine .p rfl rfl (.mv rfl) ?_
    refine .p rfl rfl (.as rfl) ?_
    refine .p rfl rfl (.as rfl) ?_
    refine .nil (.code ?_)
    refine .ret _ rfl ?_
    unfold namesF
    rw [← ha]
    exact ⟨_, rfl, OwnO.mono hO (fun _ h _ => h) (fun k h _ => by have h : w4.heap.size ≤ k := h; show w.heap.size ≤ k; omega), (by repeat (first | exact Ext.refl _ | assumption | refine Ext.trans (by assumption) ?_))⟩
theorem Room_fn {w : World} {v : Value} {d : Disk} (h : disk.tDisk.rep All w v d) (hg : GOK w) : Fn Tryz.prog 23 [v] w (fun r w2 => r = .tuple #[i64 (roomF d).1, i64 (roomF d).2] ∧ Ext (fun _ => False) w w2) := by
  have h0 := h
  obtain ⟨u, u', rfl, hd1, hd2, hdc⟩ := disk.tDisk.val h
  obtain ⟨a1, k1, rfl, _⟩ := Sl.val hd1
  obtain ⟨a2, k2, rfl, _⟩ := Sl.val hd2
  refine Fn.enter (fun w => Tryz.call23 _ w) Tryz.func23 rfl ?_
  refine .seq (.region ?_)
  refine .v rfl rfl (.box rfl) ?_
  rintro _ w1 ⟨rfl, N1⟩
  have B1 := N1.blk
  have X1 := N1.ext
  have z1 := N1.size
  refine .p rfl rfl (.as rfl) ?_
  refine .p rfl rfl (.as rfl) ?_
  refine .nil (.code (.seq (.keep [(1, _)] ⟨rfl, trivial⟩ (.region ?_))))
  refine .p rfl rfl (.loadA (n := 3) rfl rfl rfl rfl rfl (B1.ext (S := fun _ => False) (by repeat (first | exact Ext.refl _ | assumption | refine Ext.trans (by assumption) ?_)) (fun x => x)).cells) ?_
  refine .call (first := []) (captured := []) rfl rfl rfl rfl (Mount_fn (disk.tDisk.ext0 h0 (by repeat (first | exact Ext.refl _ | assumption | refine Ext.trans (by assumption) ?_))) (hg.ext0 (by repeat (first | exact Ext.refl _ | assumption | refine Ext.trans (by assumption) ?_)))) ?_
  rintro _ w12 ⟨u12, rfl, R12, X12⟩
  have z12 := X12.size
  obtain ⟨af, kf, rfl, hf, hgen⟩ := tDir.val R12
  refine .p rfl rfl (.mv rfl) ?_
  refine .p rfl rfl (.extract rfl rfl) ?_
  refine .p rfl rfl (.extract rfl rfl) ?_
  refine .v rfl rfl (.alloc rfl rfl) ?_
  rintro _ wn4 ⟨rfl, N4⟩
  refine .s rfl (.storeAll (n := 2) rfl rfl rfl rfl rfl N4.blk rfl) ?_
  intro w4 P4
  have Y4 := N4.ext.then P4.ext (by rintro k rfl _; exact Nat.le_refl _)
  have zy4 := Y4.size
  have B4 := P4.blk
  clear P4 N4
  refine .p rfl rfl (.as rfl) ?_
  refine .nil (.code (.seq (.seq (.keep [(5, _), (4, _), (1, _)] ⟨rfl, rfl, rfl, trivial⟩ (.region ?_)))))
  refine .p rfl rfl (.mv rfl) ?_
  refine .p rfl rfl (.ne rfl rfl) ?_
  refine .nil (.code (.keep [(16, _), (5, _), (4, _), (1, _)] ⟨rfl, rfl, rfl, rfl, trivial⟩ ?_))
  refine .condD rfl (fun c16 => ?_) (fun c16 => ?_)
  · refine .seq (.keep [(5, _)] ⟨rfl, trivial⟩ (.region ?_))
    refine .p rfl rfl (.mv rfl) ?_
    refine .p rfl rfl (.as rfl) ?_
    refine .p rfl rfl (.as rfl) ?_
    refine .nil (.code ?_)
    refine .ret _ rfl ?_
    rw [roomF_m c16]
    exact ⟨rfl, (by repeat (first | exact Ext.refl _ | assumption | refine Ext.trans (by assumption) ?_))⟩
  · have hm : (mountF d).2.2 = 0 := Decidable.not_not.1 c16
    obtain ⟨hck, h96, _, hmay, hckr, hup⟩ := mount_may hm
    refine .skip (.code (.seq (.keep [(4, _), (1, _)] ⟨rfl, rfl, trivial⟩ (.mix (fun _ => False) [3, 4] (by kernel_rfl) (by kernel_rfl) (by kernel_rfl) ?_))))
    refine .p rfl rfl rfl (fun wx hx => .fieldAddr rfl rfl rfl rfl) ?_
    refine .p rfl rfl rfl (fun wx hx => .load rfl rfl rfl ((B1.ext (S := fun _ => False) (Ext.trans (by repeat (first | exact Ext.refl _ | assumption | refine Ext.trans (by assumption) ?_)) hx) (fun x => x)).cell 0)) ?_
    refine .p rfl rfl rfl (fun wx hx => .loadA (n := 2) rfl rfl rfl rfl rfl (B4.ext (S := fun _ => False) (Ext.trans (by repeat (first | exact Ext.refl _ | assumption | refine Ext.trans (by assumption) ?_)) hx) (fun x => x)).cells) ?_
    refine .call (first := []) (captured := []) rfl rfl rfl rfl rfl (pieces_fn (x := (mountF d).1) (allOf (tDir.ext0 R12 (by repeat (first | exact Ext.refl _ | assumption | refine Ext.trans (by assumption) ?_)))) (small_dir hmay)) (by rintro _ _ ⟨_, hx⟩; exact Ext.trans (by repeat (first | exact Ext.refl _ | assumption | refine Ext.trans (by assumption) ?_)) hx) ?_
    rintro v22 w22 ⟨O22, X22⟩
    have z22 := X22.size
    refine .call (first := []) (captured := []) rfl rfl rfl rfl rfl (Free_fn (first := 80) (count := d.count) (OwnO.rep O22 (R := All) (fun _ _ _ => trivial) (fun _ h _ => h.elim))) (by rintro _ _ ⟨_, _, _, hx⟩; exact Ext.trans (by repeat (first | exact Ext.refl _ | assumption | refine Ext.trans (by assumption) ?_)) hx) ?_
    rintro _ w23 ⟨v23, rfl, O23, X23⟩
    have z23 := X23.size
    refine .p rfl rfl rfl (fun wx hx => .mv rfl) ?_
    refine .p rfl rfl rfl (fun wx hx => .extract rfl rfl) ?_
    refine .p rfl rfl rfl (fun wx hx => .extract rfl rfl) ?_
    refine .p rfl rfl rfl (fun wx hx => .as rfl) ?_
    refine .p rfl rfl rfl (fun wx hx => .as rfl) ?_
    refine .nil (.code (.seq (.keep [(6, _)] ⟨rfl, trivial⟩ (.region ?_))))
    refine .p rfl rfl (.mv rfl) ?_
    refine .call (first := []) (captured := []) rfl rfl rfl rfl (RoomMany_fn (OwnO.rep O23 (R := All) (fun _ _ _ => trivial) (fun _ h _ => h.elim))) ?_
    rintro _ w28 ⟨rfl, X28⟩
    have z28 := X28.size
    refine .p rfl rfl (.mv rfl) ?_
    refine .p rfl rfl (.extract rfl rfl) ?_
    refine .p rfl rfl (.extract rfl rfl) ?_
    refine .p rfl rfl (.as rfl) ?_
    refine .p rfl rfl (.as rfl) ?_
    refine .nil (.code (.seq (.keep [(8, _)] ⟨rfl, trivial⟩ (.region ?_))))
    refine .p rfl rfl (.mv rfl) ?_
    refine .p rfl rfl (.as rfl) ?_
    refine .p rfl rfl (.as rfl) ?_
    refine .nil (.code ?_)
    refine .ret _ rfl ?_
    rw [roomF_0 hm]
    refine ⟨?_, (by repeat (first | exact Ext.refl _ | assumption | refine Ext.trans (by assumption) ?_))⟩
    rw [if_pos (free_check 80 d.count (allP (mountF d).1.fs))]
    rfl
end Go.Proofs.YtpfehnopghffjaaGreatDoor
namespace Go.Proofs.YtpfehnopghffjaaGreatDoor
open Go
section
variable {P : Program} {e : Env} {w : World} {x y : Operand} {T T' E : TypeId}
end
namespace disk
def tActO : Ty Act := (tBool.pair tPutO).map (fun a => (a.flush, a.put))
theorem tActO.val {P : Nat → Prop} {w : World} {v : Value} {a : Act} (h : tActO.rep P w v a) : ∃ u, v = .agg #[.bool a.flush, i64 a.put.sector, u] ∧ tOwnB.rep P w u a.put.data ∧ -9223372036854775808 ≤ a.put.sector ∧ a.put.sector ≤ 9223372036854775807 := by
  obtain ⟨u, u', rfl, rfl, h2⟩ := h
  obtain ⟨x, rfl, h3, h4⟩ := tPutO.val h2
  exact ⟨x, rfl, h3, h4⟩
theorem tActO.mk {P : Nat → Prop} {w : World} {a : Act} {u : Value} (h : tOwnB.rep P w u a.put.data) (h1 : -9223372036854775808 ≤ a.put.sector ∧ a.put.sector ≤ 9223372036854775807) : tActO.rep P w (.agg #[.bool a.flush, i64 a.put.sector, u]) a :=
  ⟨.bool a.flush, .agg #[i64 a.put.sector, u], rfl, rfl, tPutO.mk h h1⟩
theorem tActO.weak {P : Nat → Prop} {w : World} {v : Value} {a : Act} (h : tActO.rep P w v a) : tAct.rep P w v a := by
  obtain ⟨u, u', rfl, h1, h2⟩ := h
  exact ⟨u, u', rfl, h1, tPutO.weak h2⟩
end disk
namespace files
open room
structure TD (w0 : World) (c : Nat) (γ : Nat → Nat) (g : Int) (us : List Piece) (zs : List disk.Act) (fs : List File) (cs : List Change) (vU vA vF vC : Value) (W : World) : Prop where
  cell : Blk W c 24 [i64 g, vF]
  o1 : OwnO tPiece (fun _ => False) 40 W vU us (fun k => γ k = 1)
  o2 : OwnO disk.tActO (fun k => γ k = 6) 78 W vA zs (fun k => γ k = 2)
  o3 : OwnO tFile (fun k => γ k = 5) 28 W vF fs (fun k => γ k = 3)
  o4 : (Sl tree.tChange).rep (fun k => γ k = 8) W vC cs
  ext : Ext (fun _ => False) w0 W
  c0 : γ c = 0
  cw : w0.heap.size ≤ c
  low : ∀ k, k < w0.heap.size → γ k = 5
section
variable {w0 W W' : World} {c : Nat} {γ : Nat → Nat} {g g' : Int} {us us' : List Piece} {zs zs' : List disk.Act} {fs fs' : List File} {cs : List Change} {vU vA vF vU' vA' vF' vC : Value}
theorem TD.lt (h : TD w0 c γ g us zs fs cs vU vA vF vC W) : c < W.heap.size := h.cell.lt
theorem TD.gen (h : TD w0 c γ g us zs fs cs vU vA vF vC W) (hp : Put W W' c 24 [i64 g', vF]) : TD w0 c γ g' us zs fs cs vU vA vF vC W' := by
  have n : ∀ {θ : Nat} {k : Nat}, θ ≠ 0 → γ k = θ → ¬ k = c := fun {θ k} h0 hk e => by rw [e, h.c0] at hk; exact h0 hk.symm
  exact ⟨hp.blk, OwnO.ext h.o1 hp.ext (fun k hk _ e => n (by decide) hk e) (fun _ h _ => h.elim), OwnO.ext h.o2 hp.ext (fun k hk _ e => n (by decide) hk e) (fun k hk _ e => n (by decide) hk e), OwnO.ext h.o3 hp.ext (fun k hk _ e => n (by decide) hk e) (fun k hk _ e => n (by decide) hk e), (Sl tree.tChange).ext h.o4 hp.ext (fun k hk _ e => n (by decide) hk e),
    h.ext.then hp.ext (fun k e _ => by have e : k = c := e; rw [e]; exact h.cw), h.c0, h.cw, h.low⟩
end
end files
end Go.Proofs.YtpfehnopghffjaaGreatDoor
namespace Go.Proofs.YtpfehnopghffjaaGreatDoor
open Go
namespace room
def rowB (n : Nat) (f : Nat → Bool) : List Value := (List.range n).map (fun k => .bool (f k))
theorem rowB_len (n : Nat) (f : Nat → Bool) : (rowB n f).length = n := by simp [rowB]
theorem rowB_get {n : Nat} (f : Nat → Bool) {k : Nat} (h : k < n) : (rowB n f)[k]? = some (.bool (f k)) := by simp [rowB, h]
theorem rowB_congr {n : Nat} {f g : Nat → Bool} (h : ∀ k, k < n → f k = g k) : rowB n f = rowB n g := by
  unfold rowB
  exact List.map_congr_left (fun k hk => by rw [h k (List.mem_range.1 hk)])
theorem rowB_set {n m : Nat} {f : Nat → Bool} {x : Bool} (hm : m < n) : (rowB n f).set m (.bool x) = rowB n (fun k => if k = m then x else f k) := by
  apply List.ext_getElem
  · simp [rowB]
  · intro k h1 h2
    simp only [rowB, List.length_set, List.length_map, List.length_range] at h1
    rw [List.getElem_set]
    simp only [rowB, List.getElem_map, List.getElem_range]
    by_cases hk : m = k
    · subst hk; rw [if_pos rfl, if_pos rfl]
    · rw [if_neg hk, if_neg (fun h => hk h.symm)]
theorem rowB_zero (n : Nat) : List.replicate n (.bool false) = rowB n (fun _ => false) := by
  apply List.ext_getElem
  · simp [rowB]
  · intro k h1 h2; simp [rowB]
def markB (l : List Piece) (p : Piece) (e : Int) (k : Nat) : Bool := covB l k || decide (p.fr ≤ (k : Int) ∧ (k : Int) < e)
theorem not_may_of {N : Int} {l : List Piece} {p : Piece} (hp : p ∈ l) (h : ¬ okP N p) : ¬ mayP N l := fun hm => h (hm.1 p hp)
theorem not_may_at {N : Int} {l : List Piece} {i k : Nat} (hi : i < l.length) (h1 : covB (l.take i) k = true) (h2 : l[i].fr ≤ (k : Int) ∧ (k : Int) < l[i].fr + l[i].ct) : ¬ mayP N l := fun hm => by
  obtain ⟨q, hq, h3, h4⟩ := cov_iff.1 h1
  obtain ⟨j, hj, rfl⟩ := List.mem_take_iff_getElem.1 hq
  have := List.pairwise_iff_getElem.1 hm.2 j i (by omega) hi (by omega)
  unfold apart at this
  omega
theorem may_more {N : Int} {l : List Piece} {i : Nat} (hi : i < l.length) (hm : mayP N (l.take i)) (hok : okP N l[i]) (hn : ∀ k : Nat, l[i].fr ≤ (k : Int) → (k : Int) < l[i].fr + l[i].ct → covB (l.take i) k = false) : mayP N (l.take (i + 1)) := by
  rw [List.take_succ_eq_append_getElem hi]
  refine ⟨fun p hp => ?_, List.pairwise_append.2 ⟨hm.2, List.pairwise_singleton _ _, fun q hq p hp => ?_⟩⟩
  · rcases List.mem_append.1 hp with hp | hp
    · exact hm.1 p hp
    · rw [List.mem_singleton] at hp; subst hp; exact hok
  · rw [List.mem_singleton] at hp; subst hp
    have h1 := hm.1 q hq
    unfold okP at h1 hok
    refine Decidable.byContradiction fun hna => ?_
    unfold apart at hna
    obtain ⟨k, hk⟩ : ∃ k : Nat, (k : Int) = max q.fr l[i].fr := ⟨(max q.fr l[i].fr).toNat, by omega⟩
    have := hn k (by omega) (by omega)
    rw [cov_iff.2 ⟨q, hq, by omega, by omega⟩] at this
    cases this
theorem cov_more {l : List Piece} {i : Nat} (hi : i < l.length) (k : Nat) : covB (l.take (i + 1)) k = markB (l.take i) l[i] (l[i].fr + l[i].ct) k := by
  rw [List.take_succ_eq_append_getElem hi, cov_append, cov_one]
  rfl
theorem mark_none {l : List Piece} {p : Piece} (k : Nat) : markB l p p.fr k = covB l k := by
  unfold markB
  rw [decide_eq_false (by omega), Bool.or_false]
theorem mark_step {l : List Piece} {p : Piece} {m n : Nat} (h : p.fr ≤ (m : Int)) (hm : m < n) : (rowB n (markB l p (m : Int))).set m (.bool true) = rowB n (markB l p ((m + 1 : Nat) : Int)) := by
  rw [rowB_set hm]
  refine rowB_congr (fun k _ => ?_)
  unfold markB
  by_cases hk : k = m
  · subst hk
    rw [if_pos rfl, decide_eq_true (show p.fr ≤ (k : Int) ∧ (k : Int) < ((k + 1 : Nat) : Int) by omega), Bool.or_true]
  · rw [if_neg hk]
    congr 1
    exact decide_eq_decide.2 (by omega)
theorem total_runs (f : Nat → Bool) (a : Nat) (n : Nat) : totalF (runsTo f a (n + 1)) = totalF (runsTo f a n) + if f (a + n) = true then 1 else 0 := by
  rw [runsTo]
  split
  · rw [total_push]
  · omega
theorem total_mono {f : Nat → Bool} {a j : Nat} : ∀ {N : Nat}, j ≤ N → totalF (runsTo f a j) ≤ totalF (runsTo f a N)
  | 0, h => by rw [show j = 0 by omega]; exact Int.le_refl _
  | N + 1, h => by
    by_cases he : j = N + 1
    · rw [he]; exact Int.le_refl _
    · have := total_mono (f := f) (a := a) (j := j) (N := N) (by omega)
      rw [total_runs]
      split <;> omega
theorem take_upto {f : Nat → Bool} {a j : Nat} {m : Int} (h0 : 0 ≤ m) (hj : totalF (runsTo f a j) = m) : ∀ {N : Nat}, j ≤ N → takeF (runsTo f a N) m = runsTo f a j
  | 0, h => by
    obtain rfl : j = 0 := by omega
    exact take_all (fun p hp => by cases hp) (by omega)
  | N + 1, h => by
    by_cases he : j = N + 1
    · subst he; exact take_all (fun p hp => ((runs_ok f a (N + 1)).pos p hp).1) (by omega)
    · have h1 := total_mono (f := f) (a := a) (j := j) (N := N) (by omega)
      rw [runsTo]
      split
      · rw [take_push (fun p hp => ((runs_ok f a N).pos p hp).1) h0 (by omega), take_upto h0 hj (by omega)]
      · exact take_upto h0 hj (by omega)
theorem total_in {f : Nat → Bool} {a n N : Nat} (h : a + n ≤ N) : totalF (runsTo f a n) ≤ N := (may_length (runs_may (f := f) (a := a) (n := n) (N := N) h _ rfl)).2
end room
end Go.Proofs.YtpfehnopghffjaaGreatDoor
namespace Go.Proofs.YtpfehnopghffjaaGreatDoor
open Go room
namespace room
theorem mark_self {l : List Piece} {p : Piece} (k : Nat) : markB l p (k : Int) k = covB l k := by
  unfold markB
  rw [decide_eq_false (by omega), Bool.or_false]
end room
theorem taken_fn {w : World} {v : Value} {l : List Piece} {n : Nat} (h : (Sl tPiece).rep All w v l) (hn : n ≤ 5000) : Fn Tryz.prog 127 [i64 (n : Int), v] w (fun r w2 => ∃ v', r = .tuple #[v', .bool (decide (mayP (n : Int) l))] ∧ (mayP (n : Int) l → v' = .slice (some ⟨w.heap.size, 0, none⟩) n n ∧ Blk w2 w.heap.size 4 (rowB n (covB l))) ∧ Ext (fun _ => False) w w2) := by
  obtain ⟨a, cap, rfl, hcap⟩ := Sl.val h
  have hlim := Sl.lim h
  simp only [Lim] at hlim
  refine Fn.enter (fun w => Tryz.call127 _ w) Tryz.func127 rfl ?_
  refine .seq (.region ?_)
  refine .p rfl rfl (.as rfl) ?_
  refine .p rfl rfl (.as rfl) ?_
  refine .nil (.code (.seq (.keep [(0, _), (1, _)] ⟨rfl, rfl, trivial⟩ (.region ?_))))
  refine .p rfl rfl (.mv rfl) ?_
  refine .v rfl rfl (.make (eb := 1) rfl rfl rfl rfl rfl rfl rfl rfl (by omega)) ?_
  rintro _ w11 ⟨rfl, N11⟩
  have z11 := N11.size
  have B11 : Blk w11 w.heap.size 4 (rowB n (fun _ => false)) := by rw [← rowB_zero]; exact N11.blk
  have X11 := N11.ext
  refine .p rfl rfl (.as rfl) ?_
  refine .nil (.code (.seq (.seq (.keep [(6, _), (0, _), (1, _)] ⟨rfl, rfl, rfl, trivial⟩ (.region ?_)))))
  refine .p rfl rfl (.as rfl) ?_
  refine .nil (.code (.block ?_))
  refine .loop (S := Nat × World) (fun s => [(0, i64 (n : Int)), (1, .slice a l.length cap), (6, .slice (some ⟨w.heap.size, 0, none⟩) n n), (7, i64 s.1)]) (fun s => s.2) (fun s => s.1 ≤ l.length ∧ Blk s.2 w.heap.size 4 (rowB n (covB (l.take s.1))) ∧ mayP (n : Int) (l.take s.1) ∧ Ext (fun _ => False) w s.2) (fun s => l.length - s.1) (0, w11) ⟨rfl, rfl, rfl, rfl, trivial⟩ rfl ⟨Nat.zero_le _, B11, ⟨fun p hp => (by cases hp), .nil⟩, X11⟩ ?_
  rintro ⟨i, wi⟩ J ⟨hi', Bt, hmay, hX⟩ again
  simp only at hi' Bt hmay hX
  change G _ [(0, i64 (n : Int)), (1, .slice a l.length cap), (6, .slice (some ⟨w.heap.size, 0, none⟩) n n), (7, i64 i)] _ _ wi
  refine .seq (.seq (.region ?_))
  refine .p rfl rfl (.mv rfl) ?_
  refine .p rfl rfl (.mv rfl) ?_
  refine .p rfl rfl (.len rfl rfl) ?_
  refine .p rfl rfl (.lt rfl rfl) ?_
  refine .nil (.code (.keep [(15, _), (0, _), (1, _), (6, _), (7, _)] ⟨rfl, rfl, rfl, rfl, rfl, trivial⟩ ?_))
  refine .condD rfl (fun c15 => ?_) (fun c15 => ?_)
  · have hi : i < l.length := by omega
    obtain ⟨b1, o1, q1, ue, e, _, hcs, hre⟩ := Sl.at ((Sl tPiece).ext0 h hX) (List.getElem?_eq_getElem hi)
    cases e
    obtain ⟨rfl, hr1, hr2⟩ := tPiece.val hre
    refine .skip (.code (.seq (.block (.seq (.keep [(0, _), (1, _), (6, _), (7, _)] ⟨rfl, rfl, rfl, rfl, trivial⟩ (.region ?_))))))
    refine .p rfl rfl (.mv rfl) ?_
    refine .p rfl rfl (.mv rfl) ?_
    refine .p rfl rfl (.indexAddr (s := 2) rfl rfl rfl rfl (by omega)) ?_
    refine .p rfl rfl (.loadA (n := 2) rfl rfl rfl rfl rfl hcs) ?_
    refine .v rfl rfl (.alloc rfl rfl) ?_
    rintro _ w7a ⟨rfl, N7⟩
    refine .s rfl (.storeAll (n := 2) rfl rfl rfl rfl rfl N7.blk rfl) ?_
    intro w7 P7
    have X7 := N7.ext.then P7.ext (by rintro k rfl _; exact Nat.le_refl _)
    have B7 : Blk w7 wi.heap.size 40 [i64 l[i].fr, i64 l[i].ct] := P7.blk
    have Bt7 := Bt.ext X7 (fun x => x)
    have hne : ¬ wi.heap.size = w.heap.size := by have := Bt.lt; omega
    refine .nil (.code (.seq (.seq (.keep [(8, _), (0, _), (1, _), (6, _), (7, _)] ⟨rfl, rfl, rfl, rfl, rfl, trivial⟩ (.region ?_)))))
    refine .p rfl rfl (.fieldAddr rfl rfl rfl rfl) ?_
    refine .p rfl rfl (.load rfl rfl rfl (B7.cell 1)) ?_
    refine .p rfl rfl (.lt rfl rfl) ?_
    refine .p rfl rfl (.mv rfl) ?_
    refine .caseD 25 rfl (fun c25 => ?_) (fun c25 => ?_)
    · refine .skip rfl rfl ?_
      refine .skip rfl rfl ?_
      refine .skip rfl rfl ?_
      refine .p rfl rfl (.pickT rfl rfl) ?_
      refine .p rfl rfl (.mv rfl) ?_
      refine .skip rfl rfl ?_
      refine .skip rfl rfl ?_
      refine .skip rfl rfl ?_
      refine .skip rfl rfl ?_
      refine .p rfl rfl (.pickT rfl rfl) ?_
      refine .p rfl rfl (.mv rfl) ?_
      refine .skip rfl rfl ?_
      refine .skip rfl rfl ?_
      refine .skip rfl rfl ?_
      refine .skip rfl rfl ?_
      refine .skip rfl rfl ?_
      refine .skip rfl rfl ?_
      refine .skip rfl rfl ?_
      refine .p rfl rfl (.pickT rfl rfl) ?_
      refine .nil (.code (.keep [(44, _), (8, _), (0, _), (1, _), (6, _), (7, _)] ⟨rfl, rfl, rfl, rfl, rfl, rfl, trivial⟩ (.condT rfl (.seq (.keep [] trivial (.region ?_))))))
      refine .p rfl rfl (.as rfl) ?_
      refine .p rfl rfl (.as rfl) ?_
      refine .nil (.code ?_)
      refine .ret _ rfl ?_
      have hno : ¬ mayP (n : Int) l := not_may_of (List.getElem_mem hi) (by unfold okP; omega)
      rw [decide_eq_false hno]
      exact ⟨_, rfl, fun hm => absurd hm hno, hX.trans X7⟩
    · refine .p rfl rfl (.fieldAddr rfl rfl rfl rfl) ?_
      refine .p rfl rfl (.load rfl rfl rfl (B7.cell 0)) ?_
      refine .p rfl rfl (.lt rfl rfl) ?_
      refine .p rfl rfl (.pickF rfl rfl) ?_
      refine .p rfl rfl (.mv rfl) ?_
      refine .caseD 30 rfl (fun c30 => ?_) (fun c30 => ?_)
      · refine .skip rfl rfl ?_
        refine .skip rfl rfl ?_
        refine .skip rfl rfl ?_
        refine .skip rfl rfl ?_
        refine .p rfl rfl (.pickT rfl rfl) ?_
        refine .p rfl rfl (.mv rfl) ?_
        refine .skip rfl rfl ?_
        refine .skip rfl rfl ?_
        refine .skip rfl rfl ?_
        refine .skip rfl rfl ?_
        refine .skip rfl rfl ?_
        refine .skip rfl rfl ?_
        refine .skip rfl rfl ?_
        refine .p rfl rfl (.pickT rfl rfl) ?_
        refine .nil (.code (.keep [(44, _), (8, _), (0, _), (1, _), (6, _), (7, _)] ⟨rfl, rfl, rfl, rfl, rfl, rfl, trivial⟩ (.condT rfl (.seq (.keep [] trivial (.region ?_))))))
        refine .p rfl rfl (.as rfl) ?_
        refine .p rfl rfl (.as rfl) ?_
        refine .nil (.code ?_)
        refine .ret _ rfl ?_
        have hno : ¬ mayP (n : Int) l := not_may_of (List.getElem_mem hi) (by unfold okP; omega)
        rw [decide_eq_false hno]
        exact ⟨_, rfl, fun hm => absurd hm hno, hX.trans X7⟩
      · refine .p rfl rfl (.fieldAddr rfl rfl rfl rfl) ?_
        refine .p rfl rfl (.load rfl rfl rfl (B7.cell 0)) ?_
        refine .p rfl rfl (.mv rfl) ?_
        refine .p rfl rfl (.ge rfl rfl) ?_
        refine .p rfl rfl (.pickF rfl rfl) ?_
        refine .p rfl rfl (.mv rfl) ?_
        refine .caseD 36 rfl (fun c36 => ?_) (fun c36 => ?_)
        · refine .skip rfl rfl ?_
          refine .skip rfl rfl ?_
          refine .skip rfl rfl ?_
          refine .skip rfl rfl ?_
          refine .skip rfl rfl ?_
          refine .skip rfl rfl ?_
          refine .skip rfl rfl ?_
          refine .p rfl rfl (.pickT rfl rfl) ?_
          refine .nil (.code (.keep [(44, _), (8, _), (0, _), (1, _), (6, _), (7, _)] ⟨rfl, rfl, rfl, rfl, rfl, rfl, trivial⟩ (.condT rfl (.seq (.keep [] trivial (.region ?_))))))
          refine .p rfl rfl (.as rfl) ?_
          refine .p rfl rfl (.as rfl) ?_
          refine .nil (.code ?_)
          refine .ret _ rfl ?_
          have hno : ¬ mayP (n : Int) l := not_may_of (List.getElem_mem hi) (by unfold okP; omega)
          rw [decide_eq_false hno]
          exact ⟨_, rfl, fun hm => absurd hm hno, hX.trans X7⟩
        · refine .p rfl rfl (.fieldAddr rfl rfl rfl rfl) ?_
          refine .p rfl rfl (.load rfl rfl rfl (B7.cell 1)) ?_
          refine .p rfl rfl (.mv rfl) ?_
          refine .p rfl rfl (.fieldAddr rfl rfl rfl rfl) ?_
          refine .p rfl rfl (.load rfl rfl rfl (B7.cell 0)) ?_
          refine .p rfl rfl (.sub rfl rfl (by omega)) ?_
          refine .p rfl rfl (.gt rfl rfl) ?_
          refine .p rfl rfl (.pickF rfl rfl) ?_
          refine .nil (.code (.keep [(44, _), (8, _), (0, _), (1, _), (6, _), (7, _)] ⟨rfl, rfl, rfl, rfl, rfl, rfl, trivial⟩ ?_))
          refine .condD rfl (fun c44 => ?_) (fun c44 => ?_)
          · refine .seq (.keep [] trivial (.region ?_))
            refine .p rfl rfl (.as rfl) ?_
            refine .p rfl rfl (.as rfl) ?_
            refine .nil (.code ?_)
            refine .ret _ rfl ?_
            have hno : ¬ mayP (n : Int) l := not_may_of (List.getElem_mem hi) (by unfold okP; omega)
            rw [decide_eq_false hno]
            exact ⟨_, rfl, fun hm => absurd hm hno, hX.trans X7⟩
          · have hok : okP (n : Int) l[i] := by unfold okP; omega
            refine .skip (.code (.seq (.keep [(8, _), (0, _), (1, _), (6, _), (7, _)] ⟨rfl, rfl, rfl, rfl, rfl, trivial⟩ (.region ?_))))
            refine .p rfl rfl (.fieldAddr rfl rfl rfl rfl) ?_
            refine .p rfl rfl (.cast (.load rfl rfl rfl (B7.cell 0)) (show _ = i64 ((l[i].fr.toNat : Nat) : Int) by rw [Int.toNat_of_nonneg (by omega)])) ?_
            refine .p rfl rfl (.as rfl) ?_
            refine .nil (.code (.block (.keep [(9, _), (8, _), (0, _), (1, _), (6, _), (7, _)] ⟨rfl, rfl, rfl, rfl, rfl, rfl, trivial⟩ ?_)))
            unfold okP at hok
            refine .loop (S := Nat × World) (fun s => [(0, i64 (n : Int)), (1, .slice (some ⟨b1, o1, none⟩) l.length cap), (6, .slice (some ⟨w.heap.size, 0, none⟩) n n), (7, i64 (i : Nat)), (8, .pointer (some ⟨wi.heap.size, 0, none⟩)), (9, i64 s.1)]) (fun s => s.2) (fun s => l[i].fr ≤ (s.1 : Int) ∧ (s.1 : Int) ≤ l[i].fr + l[i].ct ∧ Blk s.2 w.heap.size 4 (rowB n (markB (l.take i) l[i] (s.1 : Int))) ∧ (∀ x : Nat, l[i].fr ≤ (x : Int) → (x : Int) < (s.1 : Int) → covB (l.take i) x = false) ∧ Ext (· = w.heap.size) w7 s.2) (fun s => (l[i].fr + l[i].ct).toNat - s.1) (l[i].fr.toNat, w7) ⟨rfl, rfl, rfl, rfl, rfl, rfl, trivial⟩ rfl ⟨by show l[i].fr ≤ ((l[i].fr.toNat : Nat) : Int); omega, by show ((l[i].fr.toNat : Nat) : Int) ≤ _; omega, by rw [show rowB n (markB (l.take i) l[i] ((l[i].fr.toNat : Nat) : Int)) = rowB n (covB (l.take i)) from rowB_congr (fun x _ => by rw [Int.toNat_of_nonneg (by omega), mark_none])]; exact Bt7, fun x h1 h2 => by have h2 : (x : Int) < ((l[i].fr.toNat : Nat) : Int) := h2; omega, .refl _⟩ ?_
            rintro ⟨k, wj⟩ J2 ⟨hk1, hk2, Bk, hun, hY⟩ again2
            simp only at hk1 hk2 Bk hun hY
            change G _ [(0, i64 (n : Int)), (1, .slice (some ⟨b1, o1, none⟩) l.length cap), (6, .slice (some ⟨w.heap.size, 0, none⟩) n n), (7, i64 (i : Nat)), (8, .pointer (some ⟨wi.heap.size, 0, none⟩)), (9, i64 k)] _ _ wj
            refine .seq (.seq (.region ?_))
            refine .p rfl rfl (.mv rfl) ?_
            refine .p rfl rfl (.fieldAddr rfl rfl rfl rfl) ?_
            refine .p rfl rfl (.load rfl rfl rfl ((B7.ext hY hne).cell 0)) ?_
            refine .p rfl rfl (.fieldAddr rfl rfl rfl rfl) ?_
            refine .p rfl rfl (.load rfl rfl rfl ((B7.ext hY hne).cell 1)) ?_
            refine .p rfl rfl (.add rfl rfl (by omega)) ?_
            refine .p rfl rfl (.lt rfl rfl) ?_
            refine .nil (.code (.keep [(53, _), (0, _), (1, _), (6, _), (7, _), (8, _), (9, _)] ⟨rfl, rfl, rfl, rfl, rfl, rfl, rfl, trivial⟩ ?_))
            refine .condD rfl (fun c53 => ?_) (fun c53 => ?_)
            · have hkn : k < n := by omega
              refine .skip (.code (.seq (.block (.seq (.seq (.keep [(0, _), (1, _), (6, _), (7, _), (8, _), (9, _)] ⟨rfl, rfl, rfl, rfl, rfl, rfl, trivial⟩ (.region ?_)))))))
              refine .p rfl rfl (.mv rfl) ?_
              refine .p rfl rfl (.mv rfl) ?_
              refine .p rfl rfl (.indexAddr1 rfl rfl rfl rfl (by omega)) ?_
              refine .p rfl rfl (.cast (.load rfl rfl rfl (by rw [Int.toNat_natCast, Nat.zero_add]; exact (Bk.cell _).trans (rowB_get _ hkn))) (show _ = Value.bool (covB (l.take i) k) by rw [mark_self])) ?_
              refine .nil (.code (.keep [(59, _), (0, _), (1, _), (6, _), (7, _), (8, _), (9, _)] ⟨rfl, rfl, rfl, rfl, rfl, rfl, rfl, trivial⟩ ?_))
              refine .cond rfl (fun c59 => ?_) (fun c59 => ?_)
              · have hno : ¬ mayP (n : Int) l := not_may_at hi c59 ⟨hk1, by omega⟩
                refine .seq (.keep [] trivial (.region ?_))
                refine .p rfl rfl (.as rfl) ?_
                refine .p rfl rfl (.as rfl) ?_
                refine .nil (.code ?_)
                refine .ret _ rfl ?_
                rw [decide_eq_false hno]
                exact ⟨_, rfl, fun hm => absurd hm hno, (hX.trans X7).then hY (fun k he _ => by have he : k = w.heap.size := he; omega)⟩
              · refine .skip (.code (.keep [(0, _), (1, _), (6, _), (7, _), (8, _), (9, _)] ⟨rfl, rfl, rfl, rfl, rfl, rfl, trivial⟩ (.region ?_)))
                refine .p rfl rfl (.mv rfl) ?_
                refine .p rfl rfl (.mv rfl) ?_
                refine .p rfl rfl (.indexAddr1 rfl rfl rfl rfl (by omega)) ?_
                refine .s rfl (.store rfl rfl rfl rfl rfl Bk (by rw [Int.toNat_natCast, Nat.zero_add, rowB_len]; exact hkn)) ?_
                intro w8 P8
                have B8 := P8.blk
                rw [Int.toNat_natCast, Nat.zero_add, mark_step hk1 hkn] at B8
                refine .nil (.blk (.code (.keep [(0, _), (1, _), (6, _), (7, _), (8, _), (9, _)] ⟨rfl, rfl, rfl, rfl, rfl, rfl, trivial⟩ (.region ?_))))
                refine .p rfl rfl (.mv rfl) ?_
                refine .p rfl rfl (.add rfl rfl (by omega)) ?_
                refine .p rfl rfl (.as rfl) ?_
                refine .nil ?_
                refine (again2 (k + 1, w8) ⟨by show l[i].fr ≤ ((k + 1 : Nat) : Int); omega, by show ((k + 1 : Nat) : Int) ≤ _; omega, B8, fun x h1 h2 => ?_, hY.trans P8.ext⟩ (by show _ - (k + 1) < _ - k; omega)).of ⟨rfl, rfl, rfl, rfl, rfl, rfl, trivial⟩
                have h2 : (x : Int) < ((k + 1 : Nat) : Int) := h2
                by_cases hxk : x = k
                · subst hxk; exact c59
                · exact hun x h1 (by omega)
            · refine .exit rfl (.blk (.code (.keep [(0, _), (1, _), (6, _), (7, _)] ⟨rfl, rfl, rfl, rfl, trivial⟩ (.region ?_))))
              refine .p rfl rfl (.mv rfl) ?_
              refine .p rfl rfl (.add rfl rfl (by omega)) ?_
              refine .p rfl rfl (.as rfl) ?_
              refine .nil ?_
              refine (again (i + 1, wj) ⟨by show i + 1 ≤ _; omega, ?_, may_more hi hmay hok (fun x h1 h2 => hun x h1 (by omega)), (hX.trans X7).then hY (fun k he _ => by have he : k = w.heap.size := he; omega)⟩ (by show _ - (i + 1) < _ - i; omega)).of ⟨rfl, rfl, rfl, rfl, trivial⟩
              rw [show rowB n (covB (l.take (i + 1))) = rowB n (markB (l.take i) l[i] (k : Int)) from rowB_congr (fun x _ => by rw [cov_more hi, show l[i].fr + l[i].ct = (k : Int) by omega])]
              exact Bk
  · obtain rfl : i = l.length := by omega
    rw [List.take_length] at Bt hmay
    refine .exit rfl (.code (.seq (.keep [(6, _)] ⟨rfl, trivial⟩ (.region ?_))))
    refine .p rfl rfl (.mv rfl) ?_
    refine .p rfl rfl (.as rfl) ?_
    refine .p rfl rfl (.as rfl) ?_
    refine .nil (.code ?_)
    refine .ret _ rfl ?_
    rw [decide_eq_true hmay]
    exact ⟨_, rfl, fun _ => ⟨rfl, Bt⟩, hX⟩
theorem RefCheck_fn {w : World} {v : Value} {l : List Piece} {count : Int} (h : (Sl tPiece).rep All w v l) : Fn Tryz.prog 114 [i64 count, v] w (fun r w2 => r = i64 (checkR count l) ∧ Ext (fun _ => False) w w2) := by
  obtain ⟨a, cap, rfl, hcap⟩ := Sl.val h
  refine Fn.enter (fun w => Tryz.call114 _ w) Tryz.func114 rfl ?_
  refine .seq (.region ?_)
  refine .p rfl rfl (.as rfl) ?_
  refine .nil (.code (.seq (.seq (.keep [(0, _), (1, _)] ⟨rfl, rfl, trivial⟩ (.region ?_)))))
  refine .p rfl rfl (.mv rfl) ?_
  refine .p rfl rfl (.lt rfl rfl) ?_
  refine .p rfl rfl (.mv rfl) ?_
  refine .caseD 9 rfl (fun c9 => ?_) (fun c9 => ?_)
  · refine .skip rfl rfl ?_
    refine .skip rfl rfl ?_
    refine .p rfl rfl (.pickT rfl rfl) ?_
    refine .nil (.code (.keep [(12, _), (0, _), (1, _)] ⟨rfl, rfl, rfl, trivial⟩ (.condT rfl (.seq (.keep [] trivial (.region ?_))))))
    refine .p rfl rfl (.as rfl) ?_
    refine .nil (.code ?_)
    refine .ret _ rfl ?_
    have e : checkR count l = 2 := by unfold checkR; rw [if_pos (by omega)]
    rw [e]
    exact ⟨rfl, .refl _⟩
  · refine .p rfl rfl (.mv rfl) ?_
    refine .p rfl rfl (.gt rfl rfl) ?_
    refine .p rfl rfl (.pickF rfl rfl) ?_
    refine .nil (.code (.keep [(12, _), (0, _), (1, _)] ⟨rfl, rfl, rfl, trivial⟩ ?_))
    refine .condD rfl (fun c12 => ?_) (fun c12 => ?_)
    · refine .seq (.keep [] trivial (.region ?_))
      refine .p rfl rfl (.as rfl) ?_
      refine .nil (.code ?_)
      refine .ret _ rfl ?_
      have e : checkR count l = 2 := by unfold checkR; rw [if_pos (by omega)]
      rw [e]
      exact ⟨rfl, .refl _⟩
    · refine .skip (.code (.seq (.seq (.keep [(0, _), (1, _)] ⟨rfl, rfl, trivial⟩ (.region ?_)))))
      refine .p rfl rfl (.mv rfl) ?_
      refine .p rfl rfl (.len rfl rfl) ?_
      refine .p rfl rfl (.gt rfl rfl) ?_
      refine .nil (.code (.keep [(15, _), (0, _), (1, _)] ⟨rfl, rfl, rfl, trivial⟩ ?_))
      refine .condD rfl (fun c15 => ?_) (fun c15 => ?_)
      · refine .seq (.keep [] trivial (.region ?_))
        refine .p rfl rfl (.as rfl) ?_
        refine .nil (.code ?_)
        refine .ret _ rfl ?_
        have e : checkR count l = 4 := by unfold checkR; rw [if_neg (by omega), if_pos (by omega)]
        rw [e]
        exact ⟨rfl, .refl _⟩
      · refine .skip (.code (.seq (.keep [(0, _), (1, _)] ⟨rfl, rfl, trivial⟩ (.region ?_))))
        refine .p rfl rfl (.mv rfl) ?_
        refine .p rfl rfl (.mv rfl) ?_
        obtain ⟨n0, rfl⟩ := Int.eq_ofNat_of_zero_le (show 0 ≤ count by omega)
        refine .call (first := []) (captured := []) rfl rfl rfl rfl (taken_fn (n := n0) h (by omega)) ?_
        rintro _ w19 ⟨v19, rfl, hB19, X19⟩
        refine .p rfl rfl (.mv rfl) ?_
        refine .p rfl rfl (.extract rfl rfl) ?_
        refine .p rfl rfl (.extract rfl rfl) ?_
        refine .p rfl rfl (.as rfl) ?_
        refine .p rfl rfl (.as rfl) ?_
        refine .nil (.code (.seq (.seq (.keep [(6, _)] ⟨rfl, trivial⟩ (.region ?_)))))
        refine .p rfl rfl (.mv rfl) ?_
        refine .p rfl rfl (.notD rfl) ?_
        refine .nil (.code (.keep [(23, _)] ⟨rfl, trivial⟩ ?_))
        refine .condD rfl (fun c23 => ?_) (fun c23 => ?_)
        · refine .seq (.keep [] trivial (.region ?_))
          refine .p rfl rfl (.as rfl) ?_
          refine .nil (.code ?_)
          refine .ret _ rfl ?_
          rw [check_8 (by omega) (by omega) (by simpa using c23)]
          exact ⟨rfl, X19⟩
        · refine .skip (.code (.seq (.keep [] trivial (.region ?_))))
          refine .p rfl rfl (.as rfl) ?_
          refine .nil (.code ?_)
          refine .ret _ rfl ?_
          rw [check_0 (by omega) (by omega) (by simpa using c23)]
          exact ⟨rfl, X19⟩
end Go.Proofs.YtpfehnopghffjaaGreatDoor
namespace Go.Proofs.YtpfehnopghffjaaGreatDoor
open Go room
theorem runs_fn {w : World} {b n cap a : Nat} {f g : Nat → Bool} {want : Bool} {m : Int} (hB : Blk w b 4 (rowB n f)) (hg : ∀ k, g k = (f k == want)) (ha : a ≤ n) (hn : n ≤ 4096) (hm : 0 ≤ m ∧ m ≤ 4096) : Fn Tryz.prog 128 [.slice (some ⟨b, 0, none⟩) n cap, i64 (a : Int), .bool want, i64 m] w (fun r w2 => OwnO tPiece (fun _ => False) 40 w2 r (takeF (runsTo g a (n - a)) m) (fun k => w.heap.size ≤ k) ∧ Ext (fun _ => False) w w2) := by
  have hbl := hB.lt
  refine Fn.enter (fun w => Tryz.call128 _ w) Tryz.func128 rfl ?_
  refine .seq (.region ?_)
  refine .p rfl rfl (.as rfl) ?_
  refine .nil (.code (.seq (.keep [(0, _), (1, _), (2, _), (3, _)] ⟨rfl, rfl, rfl, rfl, trivial⟩ (.region ?_))))
  refine .p rfl rfl (.as rfl) ?_
  refine .nil (.code (.seq (.seq (.region ?_))))
  refine .p rfl rfl (.mv rfl) ?_
  refine .p rfl rfl (.as rfl) ?_
  refine .nil (.code (.block (.keep [(10, _), (9, _), (0, _), (2, _), (3, _)] ⟨rfl, rfl, rfl, rfl, rfl, trivial⟩ ?_)))
  refine .loop (S := Nat × World × Value × List Piece × Int) (fun s => [(0, .slice (some ⟨b, 0, none⟩) n cap), (2, .bool want), (3, i64 s.2.2.2.2), (9, s.2.2.1), (10, i64 ((a + s.1 : Nat) : Int))]) (fun s => s.2.1) (fun s => s.1 ≤ n - a ∧ OwnO tPiece (fun _ => False) 40 s.2.1 s.2.2.1 s.2.2.2.1 (fun k => w.heap.size ≤ k) ∧ Ext (fun k => w.heap.size ≤ k) w s.2.1 ∧ s.2.2.2.1 = runsTo g a s.1 ∧ 0 ≤ s.2.2.2.2 ∧ s.2.2.2.2 = m - totalF s.2.2.2.1) (fun s => n - a - s.1) (0, w, .slice none 0 0, [], m) ⟨rfl, rfl, rfl, rfl, rfl, trivial⟩ rfl ⟨Nat.zero_le _, OwnO.nil, .refl _, rfl, hm.1, by show m = m - 0; omega⟩ ?_
  rintro ⟨j, wi, vo, out, left⟩ J ⟨hj', hO, hX, hout, hl0, hle⟩ again
  simp only at hj' hO hX hout hl0 hle
  have hpos := (runs_ok g a j).pos
  have hlen := runs_length g a j
  have htot := total_in (f := g) (a := a) (n := j) (N := 4096) (by omega)
  rw [← hout] at hpos hlen htot
  have hnn := total_pos (l := out) (fun p hp => (hpos p hp).1)
  change G _ [(0, .slice (some ⟨b, 0, none⟩) n cap), (2, .bool want), (3, i64 left), (9, vo), (10, i64 ((a + j : Nat) : Int))] _ _ wi
  refine .seq (.seq (.region ?_))
  refine .p rfl rfl (.mv rfl) ?_
  refine .p rfl rfl (.mv rfl) ?_
  refine .p rfl rfl (.len rfl rfl) ?_
  refine .p rfl rfl (.lt rfl rfl) ?_
  refine .p rfl rfl (.mv rfl) ?_
  refine .caseD 17 rfl (fun c17 => ?_) (fun c17 => ?_)
  · have hjn : a + j < n := by omega
    refine .p rfl rfl (.mv rfl) ?_
    refine .p rfl rfl (.gt rfl rfl) ?_
    refine .p rfl rfl (.pickT rfl rfl) ?_
    refine .nil (.code (.keep [(20, _), (0, _), (2, _), (3, _), (9, _), (10, _)] ⟨rfl, rfl, rfl, rfl, rfl, rfl, trivial⟩ ?_))
    refine .condD rfl (fun c20 => ?_) (fun c20 => ?_)
    · refine .skip (.code (.seq (.block (.seq (.seq (.keep [(0, _), (2, _), (3, _), (9, _), (10, _)] ⟨rfl, rfl, rfl, rfl, rfl, trivial⟩ (.region ?_)))))))
      refine .p rfl rfl (.mv rfl) ?_
      refine .p rfl rfl (.mv rfl) ?_
      refine .p rfl rfl (.indexAddr1 rfl rfl rfl rfl (by omega)) ?_
      refine .p rfl rfl (.load rfl rfl rfl (by rw [Int.toNat_natCast, Nat.zero_add]; exact ((hB.ext hX (fun h => by have h : w.heap.size ≤ b := h; omega)).cell _).trans (rowB_get f hjn))) ?_
      refine .p rfl rfl (.mv rfl) ?_
      refine .p rfl rfl (.neB rfl rfl rfl) ?_
      refine .nil (.code (.keep [(28, _), (0, _), (2, _), (3, _), (9, _), (10, _)] ⟨rfl, rfl, rfl, rfl, rfl, rfl, trivial⟩ ?_))
      refine .cond rfl (fun c28 => ?_) (fun c28 => ?_)
      · have hgj : ¬ g (a + j) = true := by rw [hg]; simpa using c28
        refine .exit rfl (.code (.keep [(0, _), (2, _), (3, _), (9, _), (10, _)] ⟨rfl, rfl, rfl, rfl, rfl, trivial⟩ (.region ?_)))
        refine .p rfl rfl (.mv rfl) ?_
        refine .p rfl rfl (.add rfl rfl (by omega)) ?_
        refine .p rfl rfl (.as rfl) ?_
        refine .nil ?_
        refine (again (j + 1, wi, vo, out, left) ⟨by show j + 1 ≤ _; omega, hO, hX, ?_, by show 0 ≤ left; omega, ?_⟩ (by show _ - (j + 1) < _ - j; omega)).of ⟨rfl, rfl, rfl, rfl, rfl, trivial⟩
        · show out = runsTo g a (j + 1)
          rw [hout, runsTo, if_neg hgj]
        · show left = m - totalF (out)
          exact hle
      · have hgj : g (a + j) = true := by rw [hg]; simpa using c28
        obtain ⟨av, cv, rfl, hcv⟩ := OwnO.val hO
        have zi := hX.size
        refine .skip (.code (.seq (.keep [(0, _), (2, _), (3, _), (9, _), (10, _)] ⟨rfl, rfl, rfl, rfl, rfl, trivial⟩ (.region ?_))))
        refine .p rfl rfl (.mv rfl) ?_
        refine .p rfl rfl (.sub rfl rfl (by omega)) ?_
        refine .p rfl rfl (.as rfl) ?_
        refine .nil (.code (.seq (.keep [(3, _), (0, _), (2, _), (9, _), (10, _)] ⟨rfl, rfl, rfl, rfl, rfl, trivial⟩ (.region ?_))))
        refine .p rfl rfl (.mv rfl) ?_
        refine .p rfl rfl (.len rfl rfl) ?_
        refine .p rfl rfl (.as rfl) ?_
        refine .nil (.code (.seq (.keep [(11, _), (3, _), (0, _), (2, _), (9, _), (10, _)] ⟨rfl, rfl, rfl, rfl, rfl, rfl, trivial⟩ (.draws (by kernel_rfl) (by kernel_rfl) ?_))))
        refine .p rfl rfl (.mv rfl) ?_
        refine .p rfl rfl (.gt rfl rfl) ?_
        refine .p rfl rfl (.mv rfl) ?_
        refine .caseD 35 rfl (fun c35 => ?_) (fun c35 => ?_)
        · rcases List.eq_nil_or_concat out with hnil | ⟨o, p, hcc⟩
          · rw [hnil] at c35; exact absurd c35 (by decide)
          rw [List.concat_eq_append] at hcc
          have hol : out.length = o.length + 1 := by rw [hcc]; simp
          have hO2 := hO
          rw [hcc] at hO2
          obtain ⟨b2, cap2, cs, hv, hbB, hblt, Bo, h5, h6, h7, h8, hup⟩ := OwnO_last hO2
          have hps := hpos p (by rw [hcc]; simp)
          injection hv with e1 e2 e3
          subst e1
          have eix : ((out.length : Int) - 1).toNat = o.length := by omega
          refine .p rfl rfl (.mv rfl) ?_
          refine .p rfl rfl (.mv rfl) ?_
          refine .p rfl rfl (.sub rfl rfl (by omega)) ?_
          refine .p rfl rfl (.indexAddr (s := 2) rfl rfl rfl rfl (by omega)) ?_
          refine .p rfl rfl (.fieldAddr rfl rfl rfl rfl) ?_
          refine .p rfl rfl (.load rfl rfl rfl (by rw [eix]; show World.cell? _ { block := b2, off := 0 + o.length * 2 + 0 } = _; rw [show 0 + o.length * 2 + 0 = 2 * o.length by omega]; exact (Bo.cell _).trans h5)) ?_
          refine .p rfl rfl (.mv rfl) ?_
          refine .p rfl rfl (.mv rfl) ?_
          refine .p rfl rfl (.sub rfl rfl (by omega)) ?_
          refine .p rfl rfl (.indexAddr (s := 2) rfl rfl rfl rfl (by omega)) ?_
          refine .p rfl rfl (.fieldAddr rfl rfl rfl rfl) ?_
          refine .p rfl rfl (.load rfl rfl rfl (by rw [eix]; show World.cell? _ { block := b2, off := 0 + o.length * 2 + 1 } = _; rw [show 0 + o.length * 2 + 1 = 2 * o.length + 1 by omega]; exact (Bo.cell _).trans h6)) ?_
          refine .p rfl rfl (.add rfl rfl (by omega)) ?_
          refine .p rfl rfl (.mv rfl) ?_
          refine .p rfl rfl (.eq rfl rfl) ?_
          refine .p rfl rfl (.pickT rfl rfl) ?_
          refine .nil (.code (.keep [(51, _), (11, _), (3, _), (0, _), (2, _), (9, _), (10, _)] ⟨rfl, rfl, rfl, rfl, rfl, rfl, rfl, trivial⟩ ?_))
          refine .condD rfl (fun c51 => ?_) (fun c51 => ?_)
          · refine .keep [(11, _), (3, _), (0, _), (2, _), (9, _), (10, _)] ⟨rfl, rfl, rfl, rfl, rfl, rfl, trivial⟩ (.region ?_)
            refine .p rfl rfl (.mv rfl) ?_
            refine .p rfl rfl (.mv rfl) ?_
            refine .p rfl rfl (.sub rfl rfl (by omega)) ?_
            refine .p rfl rfl (.indexAddr (s := 2) rfl rfl rfl rfl (by omega)) ?_
            refine .p rfl rfl (.fieldAddr rfl rfl rfl rfl) ?_
            refine .p rfl rfl (.load rfl rfl rfl (by rw [eix]; show World.cell? _ { block := b2, off := 0 + o.length * 2 + 1 } = _; rw [show 0 + o.length * 2 + 1 = 2 * o.length + 1 by omega]; exact (Bo.cell _).trans h6)) ?_
            refine .p rfl rfl (.add rfl rfl (by omega)) ?_
            refine .p rfl rfl (.indexAddr (s := 2) rfl rfl rfl rfl (by omega)) ?_
            refine .p rfl rfl (.fieldAddr rfl rfl rfl rfl) ?_
            refine .s rfl (.store rfl rfl rfl rfl rfl Bo (by show 0 + (((out.length : Nat) : Int) - 1).toNat * 2 + 1 < cs.length; rw [eix]; omega)) ?_
            intro w8 P8
            have B8 : Blk w8 b2 40 (cs.set (0 + (((out.length : Nat) : Int) - 1).toNat * 2 + 1) (i64 (p.ct + 1))) := P8.blk
            have hX := hX.trans (P8.ext.mono (fun k _ h => by have h : k = b2 := h; show w.heap.size ≤ k; rw [h]; exact hbB))
            rw [eix, show 0 + o.length * 2 + 1 = 2 * o.length + 1 by omega] at B8
            refine .nil (.blk (.code (.keep [(3, _), (0, _), (2, _), (9, _), (10, _)] ⟨rfl, rfl, rfl, rfl, rfl, trivial⟩ (.region ?_))))
            refine .p rfl rfl (.mv rfl) ?_
            refine .p rfl rfl (.add rfl rfl (by omega)) ?_
            refine .p rfl rfl (.as rfl) ?_
            refine .nil ?_
            refine (again (j + 1, w8, .slice (some ⟨b2, 0, none⟩) out.length cv, o ++ [⟨p.fr, p.ct + 1⟩], left - 1) ⟨by show j + 1 ≤ _; omega, by show OwnO tPiece _ _ w8 (.slice (some ⟨b2, 0, none⟩) out.length cv) (o ++ [_]) _; rw [hcc]; exact hup w8 (p.ct + 1) (by omega) B8, hX, ?_, by show 0 ≤ left - 1; omega, ?_⟩ (by show _ - (j + 1) < _ - j; omega)).of ⟨rfl, rfl, rfl, rfl, rfl, trivial⟩
            · show o ++ [⟨p.fr, p.ct + 1⟩] = runsTo g a (j + 1)
              rw [runsTo, if_pos hgj, ← hout, hcc, push_snoc, if_pos (by omega)]
            · show left - 1 = m - totalF (o ++ [⟨p.fr, p.ct + 1⟩])
              rw [hle, hcc, total_append, total_append]; simp only [totalF]; omega
          · refine .keep [(3, _), (0, _), (2, _), (9, _), (10, _)] ⟨rfl, rfl, rfl, rfl, rfl, trivial⟩ (.region ?_)
            refine .p rfl rfl (.mv rfl) ?_
            refine .p rfl rfl (.mv rfl) ?_
            refine .p rfl rfl (.build (cs := [i64 ((a + j : Nat) : Int), i64 1]) rfl (fun _ => by kernel_rfl)) ?_
            refine .v rfl rfl (.lits rfl rfl (fun _ => by kernel_rfl)) ?_
            rintro _ w64 ⟨rfl, N64⟩
            refine .v rfl rfl (.appendLo (t := tPiece) (xs := out) (ys := [⟨((a + j : Nat) : Int), 1⟩]) (Q := fun _ => False) (B := fun k => w.heap.size ≤ k) (eb := 16) rfl (OwnO.ext0 hO N64.ext) (fun k hk => by have := N64.size; show w.heap.size ≤ k; omega) rfl (.inr (New.holds (t := tPiece) (xs := [⟨((a + j : Nat) : Int), 1⟩]) N64 (.cons (tPiece.mk (P := fun _ => False) (p := ⟨((a + j : Nat) : Int), 1⟩) (by show -9223372036854775808 ≤ ((a + j : Nat) : Int) ∧ ((a + j : Nat) : Int) ≤ 9223372036854775807; omega) (by show (-9223372036854775808 : Int) ≤ 1 ∧ (1 : Int) ≤ 9223372036854775807; decide)) .nil) rfl)) rfl rfl rfl rfl rfl rfl rfl (by simp; omega) (by simp [Lim]; omega) (fun _ h _ => h.elim)) ?_
            rintro r65 w65 ⟨O65, X65⟩
            have hX := (hX.trans (N64.ext.mono (fun _ _ h => h.elim))).trans X65
            refine .p rfl rfl (.as rfl) ?_
            refine .nil (.blk (.code (.keep [(9, _), (3, _), (0, _), (2, _), (10, _)] ⟨rfl, rfl, rfl, rfl, rfl, trivial⟩ (.region ?_))))
            refine .p rfl rfl (.mv rfl) ?_
            refine .p rfl rfl (.add rfl rfl (by omega)) ?_
            refine .p rfl rfl (.as rfl) ?_
            refine .nil ?_
            refine (again (j + 1, w65, _, out ++ [⟨((a + j : Nat) : Int), 1⟩], left - 1) ⟨by show j + 1 ≤ _; omega, O65, hX, ?_, by show 0 ≤ left - 1; omega, ?_⟩ (by show _ - (j + 1) < _ - j; omega)).of ⟨rfl, rfl, rfl, rfl, rfl, trivial⟩
            · show out ++ [⟨((a + j : Nat) : Int), 1⟩] = runsTo g a (j + 1)
              rw [runsTo, if_pos hgj, ← hout, hcc, push_snoc, if_neg (by omega)]
            · show left - 1 = m - totalF (out ++ [⟨((a + j : Nat) : Int), 1⟩])
              rw [hle, total_append]; simp only [totalF]; omega
        · have hcc : out = [] := List.length_eq_zero_iff.1 (by omega)
          refine .skip rfl rfl ?_
          refine .skip rfl rfl ?_
          refine .skip rfl rfl ?_
          refine .skip rfl rfl ?_
          refine .skip rfl rfl ?_
          refine .skip rfl rfl ?_
          refine .skip rfl rfl ?_
          refine .skip rfl rfl ?_
          refine .skip rfl rfl ?_
          refine .skip rfl rfl ?_
          refine .skip rfl rfl ?_
          refine .skip rfl rfl ?_
          refine .skip rfl rfl ?_
          refine .skip rfl rfl ?_
          refine .skip rfl rfl ?_
          refine .p rfl rfl (.pickF rfl rfl) ?_
          refine .nil (.code (.keep [(51, _), (11, _), (3, _), (0, _), (2, _), (9, _), (10, _)] ⟨rfl, rfl, rfl, rfl, rfl, rfl, rfl, trivial⟩ (.condF rfl (.keep [(3, _), (0, _), (2, _), (9, _), (10, _)] ⟨rfl, rfl, rfl, rfl, rfl, trivial⟩ (.region ?_)))))
          refine .p rfl rfl (.mv rfl) ?_
          refine .p rfl rfl (.mv rfl) ?_
          refine .p rfl rfl (.build (cs := [i64 ((a + j : Nat) : Int), i64 1]) rfl (fun _ => by kernel_rfl)) ?_
          refine .v rfl rfl (.lits rfl rfl (fun _ => by kernel_rfl)) ?_
          rintro _ w64 ⟨rfl, N64⟩
          refine .v rfl rfl (.appendLo (t := tPiece) (xs := out) (ys := [⟨((a + j : Nat) : Int), 1⟩]) (Q := fun _ => False) (B := fun k => w.heap.size ≤ k) (eb := 16) rfl (OwnO.ext0 hO N64.ext) (fun k hk => by have := N64.size; show w.heap.size ≤ k; omega) rfl (.inr (New.holds (t := tPiece) (xs := [⟨((a + j : Nat) : Int), 1⟩]) N64 (.cons (tPiece.mk (P := fun _ => False) (p := ⟨((a + j : Nat) : Int), 1⟩) (by show -9223372036854775808 ≤ ((a + j : Nat) : Int) ∧ ((a + j : Nat) : Int) ≤ 9223372036854775807; omega) (by show (-9223372036854775808 : Int) ≤ 1 ∧ (1 : Int) ≤ 9223372036854775807; decide)) .nil) rfl)) rfl rfl rfl rfl rfl rfl rfl (by simp; omega) (by simp [Lim]; omega) (fun _ h _ => h.elim)) ?_
          rintro r65 w65 ⟨O65, X65⟩
          have hX := (hX.trans (N64.ext.mono (fun _ _ h => h.elim))).trans X65
          refine .p rfl rfl (.as rfl) ?_
          refine .nil (.blk (.code (.keep [(9, _), (3, _), (0, _), (2, _), (10, _)] ⟨rfl, rfl, rfl, rfl, rfl, trivial⟩ (.region ?_))))
          refine .p rfl rfl (.mv rfl) ?_
          refine .p rfl rfl (.add rfl rfl (by omega)) ?_
          refine .p rfl rfl (.as rfl) ?_
          refine .nil ?_
          refine (again (j + 1, w65, _, out ++ [⟨((a + j : Nat) : Int), 1⟩], left - 1) ⟨by show j + 1 ≤ _; omega, O65, hX, ?_, by show 0 ≤ left - 1; omega, ?_⟩ (by show _ - (j + 1) < _ - j; omega)).of ⟨rfl, rfl, rfl, rfl, rfl, trivial⟩
          · show out ++ [⟨((a + j : Nat) : Int), 1⟩] = runsTo g a (j + 1)
            rw [runsTo, if_pos hgj, ← hout, hcc]; rfl
          · show left - 1 = m - totalF (out ++ [⟨((a + j : Nat) : Int), 1⟩])
            rw [hle, total_append]; simp only [totalF]; omega
    · refine .exit rfl (.code (.seq (.keep [(9, _)] ⟨rfl, trivial⟩ (.region ?_))))
      refine .p rfl rfl (.mv rfl) ?_
      refine .p rfl rfl (.as rfl) ?_
      refine .nil (.code ?_)
      refine .ret _ rfl ?_
      have e : takeF (runsTo g a (n - a)) m = out := by rw [hout]; exact take_upto hm.1 (by rw [← hout]; omega) hj'
      rw [e]
      exact ⟨hO, (Ext.refl _).then hX (fun k hk _ => hk)⟩
  · refine .skip rfl rfl ?_
    refine .skip rfl rfl ?_
    refine .p rfl rfl (.pickF rfl rfl) ?_
    refine .nil (.code (.keep [(20, _), (0, _), (2, _), (3, _), (9, _), (10, _)] ⟨rfl, rfl, rfl, rfl, rfl, rfl, trivial⟩ (.condF rfl (.exit rfl (.code (.seq (.keep [(9, _)] ⟨rfl, trivial⟩ (.region ?_))))))))
    refine .p rfl rfl (.mv rfl) ?_
    refine .p rfl rfl (.as rfl) ?_
    refine .nil (.code ?_)
    refine .ret _ rfl ?_
    have e : takeF (runsTo g a (n - a)) m = out := by rw [show n - a = j by omega, ← hout]; exact take_all (fun p hp => (hpos p hp).1) (by omega)
    rw [e]
    exact ⟨hO, (Ext.refl _).then hX (fun k hk _ => hk)⟩
end Go.Proofs.YtpfehnopghffjaaGreatDoor
