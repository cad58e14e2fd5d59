import Derived.Test.YtpfehnopghffjaaGreatDoorQ12
import Derived.Test.YtpfehnopghffjaaGreatDoorQ13
set_option linter.unusedVariables false
set_option linter.unusedSimpArgs false
set_option maxRecDepth 20000
namespace Go.Proofs.YtpfehnopghffjaaGreatDoor
open Go
open room files
theorem own_cutB {w : World} {E : TypeId} {B : Nat → Prop} {a : Option Addr} {n cap : Nat} {l : Bs} (h : OwnO tByte (fun _ => False) E w (.slice a n cap) l B) {k : Nat} (hk : k ≤ n) : OwnO tByte (fun _ => False) E w (cutV 1 a cap 0 k) (l.take k) B := by
  rcases h with ⟨rfl, e⟩ | ⟨b, hb, hlt, hl, ⟨rfl, e⟩ | ⟨c, us, sp, e, hc, he, hB, hn⟩⟩
  · cases e
    obtain rfl : k = 0 := by omega
    exact .inl ⟨rfl, rfl⟩
  · cases e
    obtain rfl : k = 0 := by omega
    exact .inl ⟨rfl, rfl⟩
  · cases e
    obtain rfl : us = l.map u8 := Each.eq_map u8 he
    have ev : cutV 1 (some ⟨b, 0, none⟩) cap 0 k = .slice (some ⟨b, 0, none⟩) (l.take k).length cap := by
      unfold cutV
      rw [List.length_take, Nat.min_eq_left hk]
      congr 1
      split
      · rfl
      · simp [Addr.add]
    rw [ev]
    rw [flat_u8] at hB hn
    have e2 : (l.take k).map u8 ++ ((l.drop k).map u8 ++ sp) = l.map u8 ++ sp := by rw [← List.append_assoc, ← List.map_append, List.take_append_drop]
    refine .inr ⟨b, hb, hlt, by rw [List.length_take]; exact Nat.lt_of_le_of_lt (Nat.min_le_right _ _) hl, .inr ⟨cap, (l.take k).map u8, (l.drop k).map u8 ++ sp, rfl, by rw [List.length_take]; omega, each_u8 _, ?_, ?_⟩⟩
    · rw [flat_u8, e2]; exact hB
    · rw [flat_u8, e2]; exact hn
namespace files
theorem sectE_length (l : List Piece) : (sectE l).length ≤ 4096 := by
  unfold sectE
  split
  · rename_i h
    have hm := (check_ok h).2.2.2
    have h1 := sect_total (may_pos hm)
    have h2 := (may_length (n := 4096) hm).2
    omega
  · exact Nat.zero_le _
theorem find_pos {x : Dir} {s : Bs} (h : ¬ findF x s < 0) : ∃ i, ∃ hi : i < x.fs.length, findF x s = (i : Int) := by
  have key : ∀ (l : List File) (k : Int), 0 ≤ k → ¬ findTo s l k < 0 → ∃ i, i < l.length ∧ findTo s l k = k + (i : Int) := by
    intro l
    induction l with
    | nil => intro k _ h; exact absurd (show findTo s [] k < 0 by rw [findTo]; decide) h
    | cons f l ih =>
      intro k hk h
      rw [findTo] at h ⊢
      by_cases he : f.name = s
      · rw [if_pos he]; exact ⟨0, by simp, by simp⟩
      · rw [if_neg he] at h ⊢
        obtain ⟨i, hi, e⟩ := ih (k + 1) (by omega) h
        exact ⟨i + 1, by simpa using hi, by rw [e]; push_cast; omega⟩
  obtain ⟨i, hi, e⟩ := key x.fs 0 (by omega) h
  exact ⟨i, hi, by unfold findF; rw [e]; omega⟩
theorem sect_in {d : Disk} (hm : (mountF d).2.2 = 0) {f : File} (hf : f ∈ (mountF d).1.fs) {n : Int} (hn : n ∈ sectE f.ps) : 0 ≤ n ∧ n < d.count := by
  obtain ⟨_, _, _, hmay, hck, _⟩ := mount_may hm
  have hmp := (check_ok hck).2.2.2
  obtain ⟨q, hq, h1, h2⟩ := (sect_mem (may_pos hmp)).1 (sectE_sub hf hn)
  have h3 := hmp.1 q hq
  unfold okP at h3
  omega
theorem mount_32 (d : Disk) : (mountF d).1.fs.length ≤ 32 := by
  by_cases h : (mountF d).2.2 = 0
  · exact (mount_may h).2.2.1
  · rw [(mountF_bad h).1]; exact Nat.zero_le _
theorem sect_many {x : Dir} (hm : mayD x) {i : Nat} (hi : i < x.fs.length) : ((sectE x.fs[i].ps).length : Int) = needF x.fs[i].size ∧ 0 ≤ x.fs[i].size := by
  have ho := hm.2.2.2 i hi
  have h0 := ho.2.2.1
  refine ⟨?_, h0⟩
  rw [← ho.2.2.2.2, manyF_eq]
  unfold sectE
  split
  · rename_i h
    exact sect_total (may_pos (check_ok h).2.2.2)
  · rfl
theorem write_1 : (writeF ⟨1, []⟩).2 = 0 ∧ (writeF ⟨1, []⟩).1.length = 1024 := by
  have hc : checkD ⟨1, []⟩ = 0 := by
    refine checkD_0 (by simp) ⟨⟨by decide, by decide⟩, by decide, (fun p hp => by cases hp), (fun i h => absurd h (Nat.not_lt_zero _))⟩
  have hb : ¬ 952 < (bodyD []).length := by decide
  rw [writeF_0 hc hb]
  refine ⟨rfl, ?_⟩
  exact slotsD_length (by rw [List.length_append, List.length_replicate]; exact Nat.add_sub_cancel' (Nat.le_of_not_lt hb))
theorem formatF_20 {n : Int} (h : n < 96 ∨ 4096 < n) : formatF n = (disk.nodisk, 20) := by unfold formatF; rw [if_pos h]
theorem formatF_0 {n : Int} (h : ¬ (n < 96 ∨ 4096 < n)) : formatF n = (⟨n, (writeF ⟨1, []⟩).1 ++ List.replicate (n.toNat * 128 - 1024) 0, []⟩, 0) := by unfold formatF; rw [if_neg h]
theorem getF_m {d : Disk} {s : Bs} (h : ¬ (mountF d).2.2 = 0) : getF d s = ([], (mountF d).2.2) := by unfold getF; rw [if_pos h]
theorem getF_5 {d : Disk} {s : Bs} (h : (mountF d).2.2 = 0) (h2 : ¬ nameF s = true) : getF d s = ([], 5) := by unfold getF; rw [if_neg (fun x => x h), if_pos h2]
theorem getF_6 {d : Disk} {s : Bs} (h : (mountF d).2.2 = 0) (h2 : nameF s = true) (h3 : findF (mountF d).1 s < 0) : getF d s = ([], 6) := by unfold getF; rw [if_neg (fun x => x h), if_neg (fun x => x h2), if_pos h3]
theorem getF_0 {d : Disk} {s : Bs} (h : (mountF d).2.2 = 0) (h2 : nameF s = true) {i : Nat} (hi : i < (mountF d).1.fs.length) (h3 : findF (mountF d).1 s = (i : Int)) : getF d s = (bytesF d (mountF d).1.fs[i], 0) := by
  unfold getF
  rw [if_neg (fun x => x h), if_neg (fun x => x h2), h3, if_neg (by omega), Int.toNat_natCast, List.getD_eq_getElem?_getD, List.getElem?_eq_getElem hi]
  rfl
theorem flat_step (f : Int → Bs) {l : List Int} {i : Nat} (hi : i < l.length) : (l.take (i + 1)).flatMap f = (l.take i).flatMap f ++ f l[i] := ints_step hi f
end files
attribute [local irreducible] readD slotB slotF mountF slotOK checkR disk.readF findTo findF writeF nameF sectE bytesF
theorem FileGet_fn {w : World} {v : Value} {d : Disk} {s : Bs} (h : disk.tDisk.rep All w v d) (hs : s.length < Lim) (hg : GOK w) : Fn Tryz.prog 19 [v, str s] w (fun r w2 => ∃ v', r = .tuple #[v', i64 (getF d s).2] ∧ Gr w2 v' (getF d s).1 w.heap.size ∧ Ext (fun _ => False) w w2) := by
  have h0 := h
  obtain ⟨u, u', rfl, hd1, hd2, hdc⟩ := disk.tDisk.val h
  obtain ⟨a1, k1, rfl, _⟩ := Sl.val hd1
  obtain ⟨a2, k2, rfl, _⟩ := Sl.val hd2
  refine Fn.enter (fun w => Tryz.call19 _ w) Tryz.func19 rfl ?_
  refine .seq (.region ?_)
  refine .v rfl rfl (.box rfl) ?_
  rintro _ w2 ⟨rfl, N2⟩
  have B2 := N2.blk
  have X2 := N2.ext
  have z2 := N2.size
  refine .p rfl rfl (.as rfl) ?_
  refine .p rfl rfl (.as rfl) ?_
  refine .nil (.code (.seq (.keep [(2, _), (1, _)] ⟨rfl, rfl, trivial⟩ (.region ?_))))
  refine .p rfl rfl (.loadA (n := 3) rfl rfl rfl rfl rfl (B2.ext (S := fun _ => False) (by repeat (first | exact Ext.refl _ | assumption | refine Ext.trans (by assumption) ?_)) (fun x => x)).cells) ?_
  refine .call (first := []) (captured := []) rfl rfl rfl rfl (Mount_fn (disk.tDisk.ext0 h0 (by repeat (first | exact Ext.refl _ | assumption | refine Ext.trans (by assumption) ?_))) (hg.ext0 (by repeat (first | exact Ext.refl _ | assumption | refine Ext.trans (by assumption) ?_)))) ?_
  rintro _ w18 ⟨u18, rfl, R18, X18⟩
  have z18 := X18.size
  obtain ⟨af, kf, rfl, hf, hgen⟩ := tDir.val R18
  refine .p rfl rfl (.mv rfl) ?_
  refine .p rfl rfl (.extract rfl rfl) ?_
  refine .p rfl rfl (.extract rfl rfl) ?_
  refine .v rfl rfl (.alloc rfl rfl) ?_
  rintro _ wn6 ⟨rfl, N6⟩
  refine .s rfl (.storeAll (n := 2) rfl rfl rfl rfl rfl N6.blk rfl) ?_
  intro w6 P6
  have Y6 := N6.ext.then P6.ext (by rintro k rfl _; exact Nat.le_refl _)
  have zy6 := Y6.size
  have B6 := P6.blk
  clear P6 N6
  refine .p rfl rfl (.as rfl) ?_
  refine .nil (.code (.seq (.seq (.keep [(7, _), (6, _), (2, _), (1, _)] ⟨rfl, rfl, rfl, rfl, trivial⟩ (.region ?_)))))
  refine .p rfl rfl (.mv rfl) ?_
  refine .p rfl rfl (.ne rfl rfl) ?_
  refine .nil (.code (.keep [(22, _), (7, _), (6, _), (2, _), (1, _)] ⟨rfl, rfl, rfl, rfl, rfl, trivial⟩ ?_))
  refine .condD rfl (fun c22 => ?_) (fun c22 => ?_)
  · refine .seq (.keep [(7, _)] ⟨rfl, trivial⟩ (.region ?_))
    refine .p rfl rfl (.mv rfl) ?_
    refine .p rfl rfl (.as rfl) ?_
    refine .p rfl rfl (.as rfl) ?_
    refine .nil (.code ?_)
    refine .ret _ rfl ?_
    rw [getF_m c22]
    exact ⟨_, rfl, OwnO.nil, (by repeat (first | exact Ext.refl _ | assumption | refine Ext.trans (by assumption) ?_))⟩
  · have hm : (mountF d).2.2 = 0 := Decidable.not_not.1 c22
    obtain ⟨hck, h96, _, hmay, hckr, hup⟩ := mount_may hm
    refine .skip (.code (.seq (.seq (.keep [(6, _), (2, _), (1, _)] ⟨rfl, rfl, rfl, trivial⟩ (.region ?_)))))
    refine .p rfl rfl (.mv rfl) ?_
    refine .call (first := []) (captured := []) rfl rfl rfl rfl (name_fn hs) ?_
    rintro _ w25 ⟨rfl, X25⟩
    have z25 := X25.size
    refine .p rfl rfl (.not rfl) ?_
    refine .nil (.code (.keep [(26, _), (6, _), (2, _), (1, _)] ⟨rfl, rfl, rfl, rfl, trivial⟩ ?_))
    refine .cond rfl (fun c26 => ?_) (fun c26 => ?_)
    · refine .seq (.keep [] trivial (.region ?_))
      refine .p rfl rfl (.as rfl) ?_
      refine .p rfl rfl (.as rfl) ?_
      refine .nil (.code ?_)
      refine .ret _ rfl ?_
      rw [getF_5 hm (by simpa using c26)]
      exact ⟨_, rfl, OwnO.nil, (by repeat (first | exact Ext.refl _ | assumption | refine Ext.trans (by assumption) ?_))⟩
    · have hnm : nameF s = true := by simpa using c26
      refine .skip (.code (.seq (.keep [(6, _), (2, _), (1, _)] ⟨rfl, rfl, rfl, trivial⟩ (.region ?_))))
      refine .p rfl rfl (.loadA (n := 2) rfl rfl rfl rfl rfl (B6.ext (S := fun _ => False) (by repeat (first | exact Ext.refl _ | assumption | refine Ext.trans (by assumption) ?_)) (fun x => x)).cells) ?_
      refine .p rfl rfl (.mv rfl) ?_
      refine .call (first := []) (captured := []) rfl rfl rfl rfl (find_fn (x := (mountF d).1) (s := s) (allOf (tDir.ext0 R18 (by repeat (first | exact Ext.refl _ | assumption | refine Ext.trans (by assumption) ?_))))) ?_
      rintro _ w29 ⟨rfl, X29⟩
      have z29 := X29.size
      refine .p rfl rfl (.as rfl) ?_
      refine .nil (.code (.seq (.seq (.keep [(8, _), (6, _), (2, _)] ⟨rfl, rfl, rfl, trivial⟩ (.region ?_)))))
      refine .p rfl rfl (.mv rfl) ?_
      refine .p rfl rfl (.lt rfl rfl) ?_
      refine .nil (.code (.keep [(31, _), (8, _), (6, _), (2, _)] ⟨rfl, rfl, rfl, rfl, trivial⟩ ?_))
      refine .condD rfl (fun c31 => ?_) (fun c31 => ?_)
      · refine .seq (.keep [] trivial (.region ?_))
        refine .p rfl rfl (.as rfl) ?_
        refine .p rfl rfl (.as rfl) ?_
        refine .nil (.code ?_)
        refine .ret _ rfl ?_
        rw [getF_6 hm hnm c31]
        exact ⟨_, rfl, OwnO.nil, (by repeat (first | exact Ext.refl _ | assumption | refine Ext.trans (by assumption) ?_))⟩
      · obtain ⟨i, hi, hfi⟩ := find_pos c31
        rw [hfi]
        obtain ⟨b1, o1, q1, ue1, e1, _, hcs, hre⟩ := Sl.at hf (List.getElem?_eq_getElem hi)
        cases e1
        obtain ⟨fa1, fc1, rfl, hps, hnm1, hsz1⟩ := tFile.val hre
        obtain ⟨hmany, hsz0⟩ := sect_many hmay hi
        unfold needF at hmany
        refine .skip (.code (.seq (.keep [(8, _), (6, _), (2, _)] ⟨rfl, rfl, rfl, trivial⟩ (.region ?_))))
        refine .p rfl rfl (.as rfl) ?_
        refine .nil (.code (.seq (.region ?_)))
        refine .p rfl rfl (.fieldAddr rfl rfl rfl rfl) ?_
        refine .p rfl rfl (.load rfl rfl rfl ((B6.ext (S := fun _ => False) (by repeat (first | exact Ext.refl _ | assumption | refine Ext.trans (by assumption) ?_)) (fun x => x)).cell 1)) ?_
        refine .p rfl rfl (.mv rfl) ?_
        refine .p rfl rfl (.indexAddr (s := 3) rfl rfl rfl rfl (by omega)) ?_
        refine .p rfl rfl (.fieldAddr rfl rfl rfl rfl) ?_
        refine .p rfl rfl (.load rfl rfl rfl ((hcs.ext (S := fun _ => False) (by repeat (first | exact Ext.refl _ | assumption | refine Ext.trans (by assumption) ?_)) (fun x => x)) 2 _ rfl)) ?_
        refine .call (first := []) (captured := []) rfl rfl rfl rfl (Sectors_fn (allOf ((Sl tPiece).ext0 hps (by repeat (first | exact Ext.refl _ | assumption | refine Ext.trans (by assumption) ?_))))) ?_
        rintro _ w39 ⟨v39, rfl, O39, X39⟩
        have z39 := X39.size
        have O39 : OwnO tInt (fun _ => False) 3 w39 v39 (sectE (mountF d).1.fs[i].ps) (fun k => w29.heap.size ≤ k) := by unfold sectE; exact O39
        have hsl := sectE_length (mountF d).1.fs[i].ps
        obtain ⟨aS, kS, rfl, hkS⟩ := OwnO.val O39
        have hS := OwnO.rep (R := All) O39 (fun _ _ _ => trivial) (fun _ h _ => h.elim)
        refine .p rfl rfl (.mv rfl) ?_
        refine .p rfl rfl (.extract rfl rfl) ?_
        refine .p rfl rfl (.extract rfl rfl) ?_
        refine .p rfl rfl (.as rfl) ?_
        refine .p rfl rfl (.as rfl) ?_
        refine .nil (.code (.seq (.seq (.keep [(10, _), (9, _), (8, _), (6, _), (2, _)] ⟨rfl, rfl, rfl, rfl, rfl, trivial⟩ (.region ?_)))))
        refine .p rfl rfl (.mv rfl) ?_
        refine .p rfl rfl (.len rfl rfl) ?_
        refine .p rfl rfl (.mv rfl) ?_
        refine .nil (.code (.block (.keep [(44, _), (43, _), (42, _), (9, _), (8, _), (6, _), (2, _)] ⟨rfl, rfl, rfl, rfl, rfl, rfl, rfl, trivial⟩ ?_)))
        refine .loop (S := Nat × Bs × Value × World) (fun s => [(2, .pointer (some ⟨w.heap.size, 0, none⟩)), (6, .pointer (some ⟨w18.heap.size, 0, none⟩)), (8, i64 (i : Nat)), (9, s.2.2.1), (42, .slice aS (sectE (mountF d).1.fs[i].ps).length kS), (43, i64 (sectE (mountF d).1.fs[i].ps).length), (44, i64 s.1)]) (fun s => s.2.2.2) (fun s => s.1 ≤ (sectE (mountF d).1.fs[i].ps).length ∧ s.2.1 = ((sectE (mountF d).1.fs[i].ps).take s.1).flatMap (fun n => disk.readF d n) ∧ s.2.1.length = s.1 * 128 ∧ Gr s.2.2.2 s.2.2.1 s.2.1 w39.heap.size ∧ Ext (fun _ => False) w39 s.2.2.2) (fun s => (sectE (mountF d).1.fs[i].ps).length - s.1) (0, [], .slice none 0 0, w39) ⟨rfl, rfl, rfl, rfl, rfl, rfl, rfl, trivial⟩ rfl ⟨Nat.zero_le _, rfl, rfl, OwnO.nil, .refl _⟩ ?_
        rintro ⟨j, acc, vi, wi⟩ J ⟨hj', ha, hal, hO, hX⟩ again
        simp only at hj' ha hal hO hX
        have zi := hX.size
        change G _ [(2, .pointer (some ⟨w.heap.size, 0, none⟩)), (6, .pointer (some ⟨w18.heap.size, 0, none⟩)), (8, i64 (i : Nat)), (9, vi), (42, .slice aS (sectE (mountF d).1.fs[i].ps).length kS), (43, i64 (sectE (mountF d).1.fs[i].ps).length), (44, i64 j)] _ _ wi
        refine .seq (.region ?_)
        refine .p rfl rfl (.lt rfl rfl) ?_
        refine .nil (.code (.seq ?_))
        refine .condD rfl (fun c45 => ?_) (fun c45 => ?_)
        · have hj : j < (sectE (mountF d).1.fs[i].ps).length := by omega
          obtain ⟨bs, os, e, _, hci, hri⟩ := Sl.intAt (tInts.ext0 hS hX) hj
          cases e
          have hin := sect_in hm (List.getElem_mem hi) (List.getElem_mem hj)
          have hrl := fread_length hck hin.1 hin.2
          refine .skip (.code (.seq (.block (.seq (.keep [(2, _), (6, _), (8, _), (9, _), (42, _), (43, _), (44, _)] ⟨rfl, rfl, rfl, rfl, rfl, rfl, rfl, trivial⟩ (.region ?_))))))
          refine .p rfl rfl (.indexAddr1 rfl rfl rfl rfl (by omega)) ?_
          refine .p rfl rfl (.load rfl rfl rfl hci) ?_
          refine .p rfl rfl (.as rfl) ?_
          refine .nil (.code (.seq (.keep [(13, _), (2, _), (6, _), (8, _), (9, _), (42, _), (43, _), (44, _)] ⟨rfl, rfl, rfl, rfl, rfl, rfl, rfl, rfl, trivial⟩ (.region ?_))))
          refine .p rfl rfl (.loadA (n := 3) rfl rfl rfl rfl rfl (B2.ext (S := fun _ => False) (by repeat (first | exact Ext.refl _ | assumption | refine Ext.trans (by assumption) ?_)) (fun x => x)).cells) ?_
          refine .p rfl rfl (.mv rfl) ?_
          refine .call (first := []) (captured := []) rfl rfl rfl rfl (Read0_fn (n := (sectE (mountF d).1.fs[i].ps)[j]) (disk.tDisk.ext0 h0 (by repeat (first | exact Ext.refl _ | assumption | refine Ext.trans (by assumption) ?_))) (disk.asked_of hck hin.1 hin.2)) ?_
          rintro _ w51 ⟨v51, rfl, R51, X51⟩
          have z51 := X51.size
          refine .p rfl rfl (.mv rfl) ?_
          refine .p rfl rfl (.extract rfl rfl) ?_
          refine .p rfl rfl (.extract rfl rfl) ?_
          refine .p rfl rfl (.as rfl) ?_
          refine .p rfl rfl (.as rfl) ?_
          refine .nil (.code (.keep [(14, _), (2, _), (6, _), (8, _), (9, _), (42, _), (43, _), (44, _)] ⟨rfl, rfl, rfl, rfl, rfl, rfl, rfl, rfl, trivial⟩ (.region ?_)))
          refine .p rfl rfl (.mv rfl) ?_
          refine .p rfl rfl (.mv rfl) ?_
          refine .v rfl rfl (.appendLo (t := tByte) (eb := 1) rfl (OwnO.ext0 hO X51) (fun k hk => by show w39.heap.size ≤ k; omega) rfl (Gr.holds R51) rfl rfl rfl rfl rfl rfl rfl (by omega) (by simp only [Lim]; omega) (fun _ h _ => h.elim)) ?_
          rintro v56 w56 ⟨O56, A56⟩
          have z56 := A56.size
          refine .p rfl rfl (.as rfl) ?_
          refine .nil (.blk (.code (.keep [(9, _), (2, _), (6, _), (8, _), (42, _), (43, _), (44, _)] ⟨rfl, rfl, rfl, rfl, rfl, rfl, rfl, trivial⟩ (.region ?_))))
          refine .p rfl rfl (.add rfl rfl (by omega)) ?_
          refine .p rfl rfl (.mv rfl) ?_
          refine .nil ?_
          exact (again (j + 1, acc ++ disk.readF d (sectE (mountF d).1.fs[i].ps)[j], v56, w56) ⟨by show j + 1 ≤ _; omega, by show _ = _; rw [flat_step _ hj, ha], by show (acc ++ _).length = (j + 1) * 128; rw [List.length_append]; omega, O56, (hX.trans X51).then A56 (fun k h _ => h)⟩ (by show _ - (j + 1) < _ - j; omega)).of ⟨rfl, rfl, rfl, rfl, rfl, rfl, rfl, trivial⟩
        · obtain rfl : j = (sectE (mountF d).1.fs[i].ps).length := by omega
          rw [List.take_length] at ha
          obtain ⟨ab, kb, rfl, hkb⟩ := OwnO.val hO
          refine .exit rfl (.code (.seq (.keep [(6, _), (8, _), (9, _)] ⟨rfl, rfl, rfl, trivial⟩ (.region ?_))))
          refine .p rfl rfl (.mv rfl) ?_
          refine .p rfl rfl (.fieldAddr rfl rfl rfl rfl) ?_
          refine .p rfl rfl (.load rfl rfl rfl ((B6.ext (S := fun _ => False) (by repeat (first | exact Ext.refl _ | assumption | refine Ext.trans (by assumption) ?_)) (fun x => x)).cell 1)) ?_
          refine .p rfl rfl (.mv rfl) ?_
          refine .p rfl rfl (.indexAddr (s := 3) rfl rfl rfl rfl (by omega)) ?_
          refine .p rfl rfl (.fieldAddr rfl rfl rfl rfl) ?_
          refine .p rfl rfl (.load rfl rfl rfl ((hcs.ext (S := fun _ => False) (by repeat (first | exact Ext.refl _ | assumption | refine Ext.trans (by assumption) ?_)) (fun x => x)) 1 _ rfl)) ?_
          refine .p rfl rfl (.cutHi (s := 1) rfl rfl rfl rfl (by omega)) ?_
          refine .p rfl rfl (.as rfl) ?_
          refine .p rfl rfl (.as rfl) ?_
          refine .nil (.code ?_)
          refine .ret _ rfl ?_
          rw [getF_0 hm hnm hi hfi]
          refine ⟨_, rfl, ?_, (by repeat (first | exact Ext.refl _ | assumption | refine Ext.trans (by assumption) ?_))⟩
          show Gr wi _ (bytesF d (mountF d).1.fs[i]) _
          unfold bytesF
          rw [← ha]
          exact OwnO.mono (own_cutB hO (by omega)) (fun _ h _ => h) (fun k h _ => by have h : w39.heap.size ≤ k := h; show w.heap.size ≤ k; omega)
theorem NewB_fn {w : World} {n : Int} (hn : 1 ≤ n ∧ n ≤ 4096) : Fn Tryz.prog 38 [i64 n] w (fun r w2 => ∃ b, r = .tuple #[.agg #[i64 n, .slice (some ⟨b, 0, none⟩) (n.toNat * 128) (n.toNat * 128), .slice none 0 0], i64 0] ∧ Blk w2 b 5 (List.replicate (n.toNat * 128) (.int .u8 0)) ∧ w.heap.size < b ∧ Ext (fun _ => False) w w2) := by
  refine Fn.enter (fun w => Tryz.call38 _ w) Tryz.func38 rfl ?_
  refine .seq (.region ?_)
  refine .v rfl rfl (.alloc rfl rfl) ?_
  rintro _ w2 ⟨rfl, N2⟩
  refine .p rfl rfl (.as rfl) ?_
  refine .nil (.code (.seq (.seq (.keep [(2, _), (0, _)] ⟨rfl, rfl, trivial⟩ (.region ?_)))))
  refine .p rfl rfl (.mv rfl) ?_
  refine .p rfl rfl (.no (.lt rfl rfl) (by omega)) ?_
  refine .p rfl rfl (.mv rfl) ?_
  refine .p rfl rfl (.mv rfl) ?_
  refine .p rfl rfl (.no (.gt rfl rfl) (by omega)) ?_
  refine .p rfl rfl (.pickF rfl rfl) ?_
  refine .nil (.code (.keep [(9, _), (2, _), (0, _)] ⟨rfl, rfl, rfl, trivial⟩ (.condF rfl (.skip (.code (.seq (.keep [(2, _), (0, _)] ⟨rfl, rfl, trivial⟩ (.region ?_))))))))
  refine .p rfl rfl (.mv rfl) ?_
  refine .p rfl rfl (.mv rfl) ?_
  refine .p rfl rfl (.mul rfl rfl (by omega)) ?_
  refine .v rfl rfl (.make (eb := 1) rfl rfl rfl rfl rfl rfl rfl rfl (by omega)) ?_
  rintro _ w14 ⟨rfl, N14⟩
  refine .p rfl rfl (.build (cs := [i64 n, .slice (some ⟨w2.heap.size, 0, none⟩) (n * 128).toNat (n * 128).toNat, .slice none 0 0]) rfl (fun _ => by kernel_rfl)) ?_
  refine .s rfl (.storeAll (n := 3) rfl rfl rfl rfl rfl (N2.blk.ext N14.ext (fun x => x)) rfl) ?_
  intro w15 P15
  have X15 := (N2.ext.trans N14.ext).then P15.ext (by rintro k rfl _; exact Nat.le_refl _)
  have hz : w2.heap.size = w.heap.size + 1 := N2.size
  refine .p rfl rfl (.as rfl) ?_
  refine .nil (.code ?_)
  refine .retR (.cell (n := 3) rfl rfl rfl rfl rfl (P15.blk.cells) (.tmp rfl .nil)) ?_
  have e : (n * 128).toNat = n.toNat * 128 := by omega
  rw [e]
  have B := N14.blk.ext P15.ext (by show ¬ w2.heap.size = w.heap.size; omega)
  rw [e] at B
  exact ⟨w2.heap.size, rfl, B, by omega, X15⟩
theorem NewC_fn {w : World} {n : Int} (hn : 1 ≤ n) : Fn Tryz.prog 38 [i64 n] w (fun r w2 => ∃ m a l c a2 l2 c2 e, r = .tuple #[.agg #[i64 m, .slice a l c, .slice a2 l2 c2], i64 e] ∧ (e = 20 ∧ 4096 < n ∨ e = 0 ∧ n ≤ 4096 ∧ m = n ∧ a2 = none ∧ l2 = 0 ∧ c2 = 0 ∧ l = n.toNat * 128 ∧ c = l ∧ ∃ b, a = some ⟨b, 0, none⟩ ∧ Blk w2 b 5 (List.replicate (n.toNat * 128) (.int .u8 0)) ∧ w.heap.size < b) ∧ Ext (fun _ => False) w w2) := by
  by_cases h : n ≤ 4096
  · refine (NewB_fn (n := n) ⟨hn, h⟩).mono ?_
    rintro r w2 ⟨b, h1, h2, h3, h4⟩
    exact ⟨_, _, _, _, _, _, _, _, h1, .inr ⟨rfl, h, rfl, rfl, rfl, rfl, rfl, rfl, b, rfl, h2, h3⟩, h4⟩
  · refine (New_fn (n := n)).mono ?_
    rintro r w2 ⟨v, h1, h2, h3⟩
    obtain ⟨a1, c1, a2, c2, rfl⟩ := tDisk.shape h2
    refine ⟨_, _, _, _, _, _, _, _, h1, .inl ⟨?_, by omega⟩, h3⟩
    unfold disk.newF
    rw [if_pos (by omega)]
theorem data_1 {N : Nat} (hN : 1024 ≤ N) : ((List.replicate N (Value.int .u8 0)).take 0 ++ ((writeF ⟨1, []⟩).1.take (min (writeF ⟨1, []⟩).1.length N)).map u8 ++ (List.replicate N (Value.int .u8 0)).drop (0 + min (writeF ⟨1, []⟩).1.length N)).take ((writeF ⟨1, []⟩).1 ++ List.replicate (N - 1024) (0 : UInt8)).length = ((writeF ⟨1, []⟩).1 ++ List.replicate (N - 1024) (0 : UInt8)).map u8 := by
  have hl := write_1.2
  generalize (writeF ⟨1, []⟩).1 = b at *
  rw [hl, Nat.min_eq_left hN, Nat.zero_add, List.take_zero, List.nil_append, List.take_of_length_le (by omega : b.length ≤ 1024), List.drop_replicate, List.map_append, List.map_replicate]
  exact List.take_of_length_le (by simp)
theorem Format_fn {w : World} {n : Int} (hg : GOK w) (hn63 : n ≤ 9223372036854775807) : Fn Tryz.prog 28 [i64 n] w (fun r w2 => ∃ v, r = .tuple #[v, i64 (formatF n).2] ∧ disk.tDisk.rep (fun k => w.heap.size ≤ k) w2 v (formatF n).1 ∧ Ext (fun _ => False) w w2) := by
  refine Fn.enter (fun w => Tryz.call28 _ w) Tryz.func28 rfl ?_
  refine .seq (.region ?_)
  refine .v rfl rfl (.alloc rfl rfl) ?_
  rintro _ w2 ⟨rfl, N2⟩
  have X2 := N2.ext
  have B2 := N2.blk
  have z2 : w2.heap.size = w.heap.size + 1 := N2.size
  refine .p rfl rfl (.as rfl) ?_
  refine .nil (.code (.seq (.seq (.keep [(2, _), (0, _)] ⟨rfl, rfl, trivial⟩ (.region ?_)))))
  refine .p rfl rfl (.mv rfl) ?_
  refine .p rfl rfl (.lt rfl rfl) ?_
  refine .nil (.code (.keep [(9, _), (2, _), (0, _)] ⟨rfl, rfl, rfl, trivial⟩ ?_))
  refine .condD rfl (fun c9 => ?_) (fun c9 => ?_)
  · refine .seq (.keep [(2, _)] ⟨rfl, trivial⟩ (.region ?_))
    refine .p rfl rfl (.build (cs := [i64 0, .slice none 0 0, .slice none 0 0]) rfl (fun _ => by kernel_rfl)) ?_
    refine .s rfl (.storeAll (n := 3) rfl rfl rfl rfl rfl N2.blk rfl) ?_
    intro w3 P3
    refine .p rfl rfl (.as rfl) ?_
    refine .nil (.code ?_)
    refine .retR (.cell (n := 3) rfl rfl rfl rfl rfl (P3.blk.cells) (.tmp rfl .nil)) ?_
    rw [formatF_20 (.inl c9)]
    exact ⟨_, rfl, disk.tDisk.mk (d := disk.nodisk) Sl.nil Sl.nil (by decide), N2.ext.then P3.ext (by rintro k rfl _; exact Nat.le_refl _)⟩
  · have h96 : ¬ n < 96 := c9
    refine .skip (.code (.seq (.keep [(2, _), (0, _)] ⟨rfl, rfl, trivial⟩ (.region ?_))))
    refine .p rfl rfl (.mv rfl) ?_
    refine .call (first := []) (captured := []) rfl rfl rfl rfl (NewC_fn (n := n) (by omega)) ?_
    rintro _ w13 ⟨m, a, l, c, a2, l2, c2, e, rfl, hnew, X13⟩
    have z13 := X13.size
    refine .p rfl rfl (.mv rfl) ?_
    refine .p rfl rfl (.extract rfl rfl) ?_
    refine .p rfl rfl (.extract rfl rfl) ?_
    refine .v rfl rfl (.alloc rfl rfl) ?_
    rintro _ wn4 ⟨rfl, N4⟩
    refine .s rfl (.storeAll (n := 3) rfl rfl rfl rfl rfl N4.blk rfl) ?_
    intro w4 P4
    have Y4 := N4.ext.then P4.ext (by rintro k rfl _; exact Nat.le_refl _)
    have zy4 := Y4.size
    have B4 := P4.blk
    clear P4 N4
    refine .p rfl rfl (.as rfl) ?_
    refine .nil (.code (.seq (.seq (.keep [(5, _), (4, _), (2, _)] ⟨rfl, rfl, rfl, trivial⟩ (.region ?_)))))
    refine .p rfl rfl (.mv rfl) ?_
    refine .p rfl rfl (.ne rfl rfl) ?_
    refine .nil (.code (.keep [(17, _), (5, _), (4, _), (2, _)] ⟨rfl, rfl, rfl, rfl, trivial⟩ ?_))
    refine .condD rfl (fun c17 => ?_) (fun c17 => ?_)
    · have hbig : e = 20 ∧ 4096 < n := by rcases hnew with h | h; exact h; exact absurd h.1 c17
      obtain ⟨rfl, hbig⟩ := hbig
      refine .seq (.keep [(5, _), (2, _)] ⟨rfl, rfl, trivial⟩ (.region ?_))
      refine .p rfl rfl (.build (cs := [i64 0, .slice none 0 0, .slice none 0 0]) rfl (fun _ => by kernel_rfl)) ?_
      refine .p rfl rfl (.mv rfl) ?_
      refine .s rfl (.storeAll (n := 3) rfl rfl rfl rfl rfl (B2.ext (S := fun _ => False) (by repeat (first | exact Ext.refl _ | assumption | refine Ext.trans (by assumption) ?_)) (fun x => x)) rfl) ?_
      intro w3 P3
      refine .p rfl rfl (.as rfl) ?_
      refine .nil (.code ?_)
      refine .retR (.cell (n := 3) rfl rfl rfl rfl rfl (P3.blk.cells) (.tmp rfl .nil)) ?_
      rw [formatF_20 (.inr hbig)]
      exact ⟨_, rfl, disk.tDisk.mk (d := disk.nodisk) Sl.nil Sl.nil (by decide), Ext.then (S := fun k => k = w.heap.size) (by repeat (first | exact Ext.refl _ | assumption | refine Ext.trans (by assumption) ?_)) P3.ext (by rintro k rfl _; omega)⟩
    · have he : e = 0 := Decidable.not_not.1 c17
      rcases hnew with hnew | hnew
      · exact absurd (hnew.1.symm.trans he) (by decide)
      obtain ⟨_, h4, rfl, rfl, rfl, rfl, rfl, rfl, b, rfl, Bb, hb⟩ := hnew
      have hbl := Bb.lt
      refine .skip (.code (.seq (.keep [(4, _), (2, _)] ⟨rfl, rfl, trivial⟩ (.region ?_))))
      refine .p rfl rfl (.build (cs := [i64 1, .slice none 0 0]) rfl (fun _ => by kernel_rfl)) ?_
      refine .call (first := []) (captured := []) rfl rfl rfl rfl (FWrite_fn (x := ⟨1, []⟩) (tDir.mk (x := ⟨1, []⟩) Sl.nil ⟨by show (-9223372036854775808 : Int) ≤ 1; decide, by show (1 : Int) ≤ _; decide⟩) (by show (0 : Nat) ≤ _; decide) (hg.ext0 (by repeat (first | exact Ext.refl _ | assumption | refine Ext.trans (by assumption) ?_)))) ?_
      rintro _ w22 ⟨v22, rfl, G22, X22⟩
      have z22 := X22.size
      have hl1 := write_1.2
      refine .p rfl rfl (.mv rfl) ?_
      refine .p rfl rfl (.extract rfl rfl) ?_
      refine .p rfl rfl (.extract rfl rfl) ?_
      refine .p rfl rfl (.as rfl) ?_
      refine .p rfl rfl (.as rfl) ?_
      refine .nil (.code (.seq (.keep [(6, _), (4, _), (2, _)] ⟨rfl, rfl, rfl, trivial⟩ (.region ?_))))
      refine .p rfl rfl (.fieldAddr rfl rfl rfl rfl) ?_
      refine .p rfl rfl (.load rfl rfl rfl ((B4.ext (S := fun _ => False) (by repeat (first | exact Ext.refl _ | assumption | refine Ext.trans (by assumption) ?_)) (fun x => x)).cell 1)) ?_
      refine .p rfl rfl (.mv rfl) ?_
      refine .v rfl rfl (.copyB (l := (writeF ⟨1, []⟩).1) rfl (Bb.ext (S := fun _ => False) (by repeat (first | exact Ext.refl _ | assumption | refine Ext.trans (by assumption) ?_)) (fun x => x)) rfl (Gr.rep G22) rfl rfl (by rw [List.length_replicate, hl1]; omega)) ?_
      rintro _ w28 ⟨rfl, P28⟩
      have z28 := P28.ext.size
      have Bd := P28.blk
      have B428 := (B4.ext (S := fun _ => False) (by repeat (first | exact Ext.refl _ | assumption | refine Ext.trans (by assumption) ?_)) (fun x => x)).ext P28.ext (by omega)
      have B228 := (B2.ext (S := fun _ => False) (by repeat (first | exact Ext.refl _ | assumption | refine Ext.trans (by assumption) ?_)) (fun x => x)).ext P28.ext (by omega)
      refine .nil (.code (.seq (.keep [(4, _), (2, _)] ⟨rfl, rfl, trivial⟩ (.region ?_))))
      refine .p rfl rfl (.loadA (n := 3) rfl rfl rfl rfl rfl B428.cells) ?_
      refine .s rfl (.storeAll (n := 3) rfl rfl rfl rfl rfl B228 rfl) ?_
      intro w8 P8
      refine .p rfl rfl (.as rfl) ?_
      refine .nil (.code ?_)
      refine .retR (.cell (n := 3) rfl rfl rfl rfl rfl (P8.blk.cells) (.tmp rfl .nil)) ?_
      rw [formatF_0 (by omega)]
      refine ⟨_, rfl, ?_, (Ext.then (S := fun k => k = b) (by repeat (first | exact Ext.refl _ | assumption | refine Ext.trans (by assumption) ?_)) P28.ext (by rintro k rfl _; omega)).then P8.ext (by rintro k rfl _; omega)⟩
      refine disk.tDisk.mk (d := ⟨m, (writeF ⟨1, []⟩).1 ++ List.replicate (m.toNat * 128 - 1024) 0, []⟩) (tBytes.mono (Sl.mkBytesB (P := fun k => k = b) (Bd.ext P8.ext (by omega)) (data_1 (by omega)) rfl (by rw [List.length_append, List.length_replicate]; omega) (by rw [List.length_append, List.length_replicate]; simp only [Lim]; omega) (by rw [List.length_append, List.length_replicate]; omega)) (by rintro k rfl _; show w.heap.size ≤ k; omega)) Sl.nil (by show -9223372036854775808 ≤ m ∧ m ≤ 9223372036854775807; omega)
end Go.Proofs.YtpfehnopghffjaaGreatDoor
namespace Go.Proofs.YtpfehnopghffjaaGreatDoor
open Go
section
variable {P : Program} {e : Env} {w : World} {x y : Operand} {T T' E : TypeId}
theorem DoV.copyST {l : Bs} {c o dn dc : Nat} {cs : List Value} (hx : look e x = some (.slice (some ⟨c, o, none⟩) dn dc)) (hB : Blk w c E cs) (hy : look e y = some (str l)) (hT : P.underlying T = some (.slice E)) (hs : sizeIs P E 1) (hfit : o + min l.length dn ≤ cs.length) :
    DoV P e (.call { callee := .builtin .copy, args := #[x, y], argTypes := #[T, T'] }) w (fun r w2 => r = i64 (min l.length dn : Nat) ∧ Put w w2 c E (cs.take o ++ (l.take (min l.length dn)).map u8 ++ cs.drop (o + min l.length dn))) := by
  intro w' hw ρ hρ op ho
  have hB' : Blk w' c E cs := hB.keep (by rw [hw.heap])
  have hmap : (bs l).data.toList.map (fun x => Value.int .u8 (x.toNat : Int)) = l.map u8 := by simp [bs]
  have hlen : ((l.take (min l.length dn)).map u8).length = min l.length dn := by simp
  have hst := run_storeCells_cells (P := P) c o ((l.take (min l.length dn)).map u8) 0 w' (fun j hj => by rw [Nat.add_zero, hB'.cell, List.getElem?_eq_getElem (by omega)]; rfl) (fun j hj => by rw [Nat.add_zero]; exact hB'.thawed _ (by omega)) (by intro v hv; obtain ⟨q, _, rfl⟩ := List.mem_map.1 hv; rfl)
  have hmin : Nat.min (bs l).size dn = min l.length dn := by rw [bs_size]
  refine ⟨i64 (min l.length dn : Nat), putCells w c o ((l.take (min l.length dn)).map u8), putCells w' c o ((l.take (min l.length dn)).map u8), run_copy_call ho ?_, hw.putCells c _ _, rfl, ?_⟩
  · rw [hρ _ _ hx, hρ _ _ hy]
    simp [Builtin.copy_, run_underlying hT, Builtin.lenOf, Builtin.firstCells, hs.run, hmin]
    first | rw [hst, putCells_setCells] | rw [hmap, ← List.map_take, hst, putCells_setCells]
    rfl
  · have hb2 := hB.put ((l.take (min l.length dn)).map u8) o
    rw [splice_eq _ _ _ (by rw [hlen]; exact hfit), hlen] at hb2
    exact ⟨hb2, putCells_ext _ _ _ _, putCells_size _ _ _ _⟩
end
namespace disk
def tActO : Ty Act := (tBool.pair tPutO).map (fun a => (a.flush, a.put))
theorem tActO.val {P : Nat → Prop} {w : World} {v : Value} {a : Act} (h : tActO.rep P w v a) : ∃ u, v = .agg #[.bool a.flush, i64 a.put.sector, u] ∧ tOwnB.rep P w u a.put.data ∧ -9223372036854775808 ≤ a.put.sector ∧ a.put.sector ≤ 9223372036854775807 := by
  obtain ⟨u, u', rfl, rfl, h2⟩ := h
  obtain ⟨x, rfl, h3, h4⟩ := tPutO.val h2
  exact ⟨x, rfl, h3, h4⟩
theorem tActO.mk {P : Nat → Prop} {w : World} {a : Act} {u : Value} (h : tOwnB.rep P w u a.put.data) (h1 : -9223372036854775808 ≤ a.put.sector ∧ a.put.sector ≤ 9223372036854775807) : tActO.rep P w (.agg #[.bool a.flush, i64 a.put.sector, u]) a :=
  ⟨.bool a.flush, .agg #[i64 a.put.sector, u], rfl, rfl, tPutO.mk h h1⟩
theorem tActO.weak {P : Nat → Prop} {w : World} {v : Value} {a : Act} (h : tActO.rep P w v a) : tAct.rep P w v a := by
  obtain ⟨u, u', rfl, h1, h2⟩ := h
  exact ⟨u, u', rfl, h1, tPutO.weak h2⟩
end disk
def col (γ : Nat → Nat) (n φ : Nat) : Nat → Nat := fun k => if k < n then γ k else φ
theorem col_old {γ : Nat → Nat} {n φ k : Nat} (h : k < n) : col γ n φ k = γ k := if_pos h
theorem col_new {γ : Nat → Nat} {n φ k : Nat} (h : n ≤ k) : col γ n φ k = φ := if_neg (by omega)
theorem own_col {α : Type} {t : Ty α} {E : TypeId} {w w2 : World} {v : Value} {xs : List α} {γ : Nat → Nat} {φ ψ θ q : Nat} (h : OwnO t (fun k => γ k = q) E w v xs (fun k => γ k = θ)) (hx : Ext (fun k => col γ w.heap.size φ k = ψ) w w2) (h1 : θ ≠ ψ) (h2 : q ≠ ψ) : OwnO t (fun k => col γ w.heap.size φ k = q) E w2 v xs (fun k => col γ w.heap.size φ k = θ) :=
  OwnO.mono (OwnO.ext (OwnO.mono h (Q' := fun k => γ k = q ∧ k < w.heap.size) (B' := fun k => γ k = θ ∧ k < w.heap.size) (fun k h hl => ⟨h, hl⟩) (fun k h hl => ⟨h, hl⟩)) hx (fun k hk _ e => by have e : col γ w.heap.size φ k = ψ := e; rw [col_old hk.2, hk.1] at e; exact h1 e) (fun k hk _ e => by have e : col γ w.heap.size φ k = ψ := e; rw [col_old hk.2, hk.1] at e; exact h2 e))
    (fun k hk _ => by show col _ _ _ _ = _; rw [col_old hk.2]; exact hk.1) (fun k hk _ => by show col _ _ _ _ = _; rw [col_old hk.2]; exact hk.1)
theorem own_col0 {α : Type} {t : Ty α} {E : TypeId} {w w2 : World} {v : Value} {xs : List α} {γ : Nat → Nat} {φ θ q : Nat} (h : OwnO t (fun k => γ k = q) E w v xs (fun k => γ k = θ)) (hx : Ext (fun _ => False) w w2) : OwnO t (fun k => col γ w.heap.size φ k = q) E w2 v xs (fun k => col γ w.heap.size φ k = θ) :=
  OwnO.mono (OwnO.ext0 (OwnO.mono h (Q' := fun k => γ k = q ∧ k < w.heap.size) (B' := fun k => γ k = θ ∧ k < w.heap.size) (fun k h hl => ⟨h, hl⟩) (fun k h hl => ⟨h, hl⟩)) hx)
    (fun k hk _ => by show col _ _ _ _ = _; rw [col_old hk.2]; exact hk.1) (fun k hk _ => by show col _ _ _ _ = _; rw [col_old hk.2]; exact hk.1)
theorem own_colF {α : Type} {t : Ty α} {E : TypeId} {w w2 : World} {v : Value} {xs : List α} {γ : Nat → Nat} {φ ψ θ : Nat} (h : OwnO t (fun _ => False) E w v xs (fun k => γ k = θ)) (hx : Ext (fun k => col γ w.heap.size φ k = ψ) w w2) (h1 : θ ≠ ψ) : OwnO t (fun _ => False) E w2 v xs (fun k => col γ w.heap.size φ k = θ) :=
  OwnO.mono (OwnO.ext (OwnO.mono h (Q' := fun _ => False) (B' := fun k => γ k = θ ∧ k < w.heap.size) (fun _ h _ => h) (fun k h hl => ⟨h, hl⟩)) hx (fun k hk _ e => by have e : col γ w.heap.size φ k = ψ := e; rw [col_old hk.2, hk.1] at e; exact h1 e) (fun _ h _ => h.elim))
    (fun _ h _ => h) (fun k hk _ => by show col _ _ _ _ = _; rw [col_old hk.2]; exact hk.1)
theorem own_colF0 {α : Type} {t : Ty α} {E : TypeId} {w w2 : World} {v : Value} {xs : List α} {γ : Nat → Nat} {φ θ : Nat} (h : OwnO t (fun _ => False) E w v xs (fun k => γ k = θ)) (hx : Ext (fun _ => False) w w2) : OwnO t (fun _ => False) E w2 v xs (fun k => col γ w.heap.size φ k = θ) :=
  OwnO.mono (OwnO.ext0 (OwnO.mono h (Q' := fun _ => False) (B' := fun k => γ k = θ ∧ k < w.heap.size) (fun _ h _ => h) (fun k h hl => ⟨h, hl⟩)) hx)
    (fun _ h _ => h) (fun k hk _ => by show col _ _ _ _ = _; rw [col_old hk.2]; exact hk.1)
theorem own_pre {α : Type} {t : Ty α} {E : TypeId} {w : World} {v : Value} {xs : List α} {γ : Nat → Nat} {θ q : Nat} (h : OwnO t (fun k => γ k = q) E w v xs (fun k => γ k = θ)) : OwnO t (fun k => γ k = q ∧ k < w.heap.size) E w v xs (fun k => col γ w.heap.size θ k = θ) :=
  OwnO.mono h (fun k h hl => ⟨h, hl⟩) (fun k h hl => by show col _ _ _ _ = _; rw [col_old hl]; exact h)
theorem own_post {α : Type} {t : Ty α} {E : TypeId} {w w2 : World} {v : Value} {xs : List α} {γ : Nat → Nat} {θ q : Nat} (h : OwnO t (fun k => γ k = q ∧ k < w.heap.size) E w2 v xs (fun k => col γ w.heap.size θ k = θ)) : OwnO t (fun k => col γ w.heap.size θ k = q) E w2 v xs (fun k => col γ w.heap.size θ k = θ) :=
  OwnO.mono h (fun k h _ => by show col _ _ _ _ = _; rw [col_old h.2]; exact h.1) (fun _ h _ => h)
namespace files
open room
structure TD (w0 : World) (c : Nat) (γ : Nat → Nat) (g : Int) (us : List Piece) (zs : List disk.Act) (fs : List File) (cs : List Change) (vU vA vF vC : Value) (W : World) : Prop where
  cell : Blk W c 24 [i64 g, vF]
  o1 : OwnO tPiece (fun _ => False) 40 W vU us (fun k => γ k = 1)
  o2 : OwnO disk.tActO (fun k => γ k = 6) 78 W vA zs (fun k => γ k = 2)
  o3 : OwnO tFile (fun k => γ k = 5) 28 W vF fs (fun k => γ k = 3)
  o4 : (Sl tree.tChange).rep (fun k => γ k = 8) W vC cs
  ext : Ext (fun _ => False) w0 W
  c0 : γ c = 0
  cw : w0.heap.size ≤ c
  low : ∀ k, k < w0.heap.size → γ k = 5
theorem rep_col {α : Type} {t : Ty α} {w w2 : World} {v : Value} {x : α} {γ : Nat → Nat} {φ ψ θ : Nat} (h : t.rep (fun k => γ k = θ) w v x) (hx : Ext (fun k => col γ w.heap.size φ k = ψ) w w2) (h1 : θ ≠ ψ) : t.rep (fun k => col γ w.heap.size φ k = θ) w2 v x :=
  t.mono (t.ext (t.mono h (P' := fun k => γ k = θ ∧ k < w.heap.size) (fun k h hl => ⟨h, hl⟩)) hx (fun k hk _ e => by have e : col γ w.heap.size φ k = ψ := e; rw [col_old hk.2, hk.1] at e; exact h1 e)) (fun k hk _ => by show col _ _ _ _ = _; rw [col_old hk.2]; exact hk.1)
theorem rep_col0 {α : Type} {t : Ty α} {w w2 : World} {v : Value} {x : α} {γ : Nat → Nat} {φ θ : Nat} (h : t.rep (fun k => γ k = θ) w v x) (hx : Ext (fun _ => False) w w2) : t.rep (fun k => col γ w.heap.size φ k = θ) w2 v x :=
  t.mono (t.ext0 (t.mono h (P' := fun k => γ k = θ ∧ k < w.heap.size) (fun k h hl => ⟨h, hl⟩)) hx) (fun k hk _ => by show col _ _ _ _ = _; rw [col_old hk.2]; exact hk.1)
structure TI (γ : Nat → Nat) (c : Nat) (ch : Change) (vS : Value) (ss : List Int) (W : World) : Prop where
  b : Blk W c 80 [str ch.key, str ch.value, .bool ch.gone]
  g0 : γ c = 0
  s : (Sl tInt).rep (fun k => γ k = 4) W vS ss
theorem TI.quiet {γ : Nat → Nat} {c : Nat} {ch : Change} {vS : Value} {ss : List Int} {W W' : World} (h : TI γ c ch vS ss W) (hx : Ext (fun _ => False) W W') (φ : Nat) : TI (col γ W.heap.size φ) c ch vS ss W' := ⟨h.b.ext hx (fun x => x), by rw [col_old h.b.lt]; exact h.g0, rep_col0 h.s hx⟩
theorem TI.app {γ : Nat → Nat} {c : Nat} {ch : Change} {vS : Value} {ss : List Int} {W W' : World} (h : TI γ c ch vS ss W) {φ ψ : Nat} (hx : Ext (fun k => col γ W.heap.size φ k = ψ) W W') (h0 : 0 ≠ ψ) (h4 : 4 ≠ ψ) : TI (col γ W.heap.size φ) c ch vS ss W' := ⟨h.b.ext hx (fun e => by have e : col γ W.heap.size φ c = ψ := e; rw [col_old h.b.lt, h.g0] at e; exact h0 e), by rw [col_old h.b.lt]; exact h.g0, rep_col h.s hx h4⟩
section
variable {w0 W W' : World} {c : Nat} {γ : Nat → Nat} {g g' : Int} {us us' : List Piece} {zs zs' : List disk.Act} {fs fs' : List File} {cs : List Change} {vU vA vF vU' vA' vF' vC : Value}
theorem TD.nc {θ : Nat} (h : TD w0 c γ g us zs fs cs vU vA vF vC W) (h0 : 0 ≠ θ) (φ : Nat) : ¬ col γ W.heap.size φ c = θ := by rw [col_old h.cell.lt, h.c0]; exact h0
theorem TD.lt (h : TD w0 c γ g us zs fs cs vU vA vF vC W) : c < W.heap.size := h.cell.lt
theorem TD.quiet (h : TD w0 c γ g us zs fs cs vU vA vF vC W) (hx : Ext (fun _ => False) W W') (φ : Nat) : TD w0 c (col γ W.heap.size φ) g us zs fs cs vU vA vF vC W' := by
  have hs := h.ext.size
  exact ⟨h.cell.ext hx (fun x => x), own_colF0 h.o1 hx, own_col0 h.o2 hx, own_col0 h.o3 hx, rep_col0 h.o4 hx, h.ext.trans hx, by rw [col_old h.lt]; exact h.c0, h.cw, fun k hk => by rw [col_old (by omega)]; exact h.low k hk⟩
theorem TD.colour (h : TD w0 c γ g us zs fs cs vU vA vF vC W) {k ψ : Nat} (hψ : ψ ≠ 5 ∨ w0.heap.size ≤ k) (h0 : ψ ≠ 0) (hk : col γ W.heap.size ψ k = ψ) (hl : k < W.heap.size) (h5 : ψ ≠ 5) : k ≠ c ∧ w0.heap.size ≤ k := by
  rw [col_old hl] at hk
  refine ⟨fun e => by rw [e, h.c0] at hk; exact h0 hk.symm, ?_⟩
  rcases Nat.lt_or_ge k w0.heap.size with h2 | h2
  · rw [h.low k h2] at hk; exact absurd hk.symm h5
  · exact h2
theorem TD.app1 (h : TD w0 c γ g us zs fs cs vU vA vF vC W) (hx : Ext (fun k => col γ W.heap.size 1 k = 1) W W') (ho : OwnO tPiece (fun _ => False) 40 W' vU' us' (fun k => col γ W.heap.size 1 k = 1)) : TD w0 c (col γ W.heap.size 1) g us' zs fs cs vU' vA vF vC W' := by
  have hs := h.ext.size
  have hc : ¬ col γ W.heap.size 1 c = 1 := by rw [col_old h.lt, h.c0]; decide
  exact ⟨h.cell.ext hx hc, ho, own_col h.o2 hx (by decide) (by decide), own_col h.o3 hx (by decide) (by decide), rep_col h.o4 hx (by decide), h.ext.then hx (fun k e hl => (h.colour (.inl (by decide)) (by decide) e hl (by decide)).2), by rw [col_old h.lt]; exact h.c0, h.cw, fun k hk => by rw [col_old (by omega)]; exact h.low k hk⟩
theorem TD.app2 (h : TD w0 c γ g us zs fs cs vU vA vF vC W) (hx : Ext (fun k => col γ W.heap.size 2 k = 2) W W') (ho : OwnO disk.tActO (fun k => col γ W.heap.size 2 k = 6) 78 W' vA' zs' (fun k => col γ W.heap.size 2 k = 2)) : TD w0 c (col γ W.heap.size 2) g us zs' fs cs vU vA' vF vC W' := by
  have hs := h.ext.size
  have hc : ¬ col γ W.heap.size 2 c = 2 := by rw [col_old h.lt, h.c0]; decide
  exact ⟨h.cell.ext hx hc, own_colF h.o1 hx (by decide), ho, own_col h.o3 hx (by decide) (by decide), rep_col h.o4 hx (by decide), h.ext.then hx (fun k e hl => (h.colour (.inl (by decide)) (by decide) e hl (by decide)).2), by rw [col_old h.lt]; exact h.c0, h.cw, fun k hk => by rw [col_old (by omega)]; exact h.low k hk⟩
theorem TD.app3 (h : TD w0 c γ g us zs fs cs vU vA vF vC W) (hx : Ext (fun k => col γ W.heap.size 3 k = 3) W W') (ho : OwnO tFile (fun k => col γ W.heap.size 3 k = 5) 28 W' vF' fs' (fun k => col γ W.heap.size 3 k = 3)) {W2 : World} (hp : Put W' W2 c 24 [i64 g, vF']) : TD w0 c (col γ W.heap.size 3) g us zs fs' cs vU vA vF' vC W2 := by
  have hs := h.ext.size
  have hs2 := hx.size
  have hl := h.lt
  have hc : ¬ col γ W.heap.size 3 c = 3 := by rw [col_old h.lt, h.c0]; decide
  have n : ∀ {θ : Nat} {k : Nat}, θ ≠ 0 → col γ W.heap.size 3 k = θ → ¬ k = c := fun {θ k} h0 hk e => by rw [e, col_old h.lt, h.c0] at hk; exact h0 hk.symm
  exact ⟨hp.blk, OwnO.ext (own_colF h.o1 hx (by decide)) hp.ext (fun k hk _ e => n (by decide) hk e) (fun _ h _ => h.elim), OwnO.ext (own_col h.o2 hx (by decide) (by decide)) hp.ext (fun k hk _ e => n (by decide) hk e) (fun k hk _ e => n (by decide) hk e), OwnO.ext ho hp.ext (fun k hk _ e => n (by decide) hk e) (fun k hk _ e => n (by decide) hk e), (Sl tree.tChange).ext (rep_col h.o4 hx (by decide)) hp.ext (fun k hk _ e => n (by decide) hk e),
    (h.ext.then hx (fun k e hl => (h.colour (.inl (by decide)) (by decide) e hl (by decide)).2)).then hp.ext (fun k e _ => by have e : k = c := e; rw [e]; exact h.cw), by rw [col_old h.lt]; exact h.c0, h.cw, fun k hk => by rw [col_old (by omega)]; exact h.low k hk⟩
theorem TD.sort (h : TD w0 c γ g us zs fs cs vU vA vF vC W) (hx : Ext (fun k => γ k = 3 ∧ k < W.heap.size) W W') (ho : OwnO tFile (fun k => γ k = 5 ∧ k < W.heap.size) 28 W' vF fs' (fun k => γ k = 3 ∧ k < W.heap.size)) : TD w0 c (col γ W.heap.size 0) g us zs fs' cs vU vA vF vC W' := by
  have hs := h.ext.size
  have hx' : Ext (fun k => col γ W.heap.size 0 k = 3) W W' := hx.mono (fun k hk e => by show col _ _ _ _ = _; rw [col_old hk]; exact e.1)
  have hc : ¬ col γ W.heap.size 0 c = 3 := by rw [col_old h.lt, h.c0]; decide
  refine ⟨h.cell.ext hx' hc, own_colF h.o1 hx' (by decide), own_col h.o2 hx' (by decide) (by decide), ?_, rep_col h.o4 hx' (by decide), h.ext.then hx' (fun k e hl => ?_), by rw [col_old h.lt]; exact h.c0, h.cw, fun k hk => by rw [col_old (by omega)]; exact h.low k hk⟩
  · refine OwnO.mono ho (fun k hk _ => by show col _ _ _ _ = _; rw [col_old hk.2]; exact hk.1) (fun k hk hl => by show col _ _ _ _ = _; rw [col_old hk.2]; exact hk.1)
  · rw [col_old hl] at e
    rcases Nat.lt_or_ge k w0.heap.size with h2 | h2
    · rw [h.low k h2] at e; cases e
    · exact h2
theorem TD.gen (h : TD w0 c γ g us zs fs cs vU vA vF vC W) (hp : Put W W' c 24 [i64 g', vF]) : TD w0 c γ g' us zs fs cs vU vA vF vC W' := by
  have n : ∀ {θ : Nat} {k : Nat}, θ ≠ 0 → γ k = θ → ¬ k = c := fun {θ k} h0 hk e => by rw [e, h.c0] at hk; exact h0 hk.symm
  exact ⟨hp.blk, OwnO.ext h.o1 hp.ext (fun k hk _ e => n (by decide) hk e) (fun _ h _ => h.elim), OwnO.ext h.o2 hp.ext (fun k hk _ e => n (by decide) hk e) (fun k hk _ e => n (by decide) hk e), OwnO.ext h.o3 hp.ext (fun k hk _ e => n (by decide) hk e) (fun k hk _ e => n (by decide) hk e), (Sl tree.tChange).ext h.o4 hp.ext (fun k hk _ e => n (by decide) hk e),
    h.ext.then hp.ext (fun k e _ => by have e : k = c := e; rw [e]; exact h.cw), h.c0, h.cw, h.low⟩
end
end files
end Go.Proofs.YtpfehnopghffjaaGreatDoor
