import Derived.Test.YtpfehnopghffjaaGreatDoorQ20
import Derived.Test.YtpfehnopghffjaaGreatDoorQ16
import Derived.Test.YtpfehnopghffjaaGreatDoorQ13
set_option linter.unusedVariables false
set_option linter.unusedSimpArgs false
/-
  Layer 4, plain: files put: their sectors, their acts, their bytes.
-/
namespace Go.Proofs.YtpfehnopghffjaaGreatDoor
open Go
namespace files
open room
theorem sect_mem {l : List Piece} (h : ∀ p ∈ l, 0 ≤ p.ct) {n : Int} : n ∈ sectF l ↔ ∃ p ∈ l, p.fr ≤ n ∧ n < p.fr + p.ct := by
  unfold sectF
  rw [List.mem_flatMap]
  constructor
  · rintro ⟨p, hp, hn⟩
    unfold oneF at hn
    obtain ⟨k, hk, rfl⟩ := List.mem_map.1 hn
    rw [List.mem_range] at hk
    have := h p hp
    exact ⟨p, hp, by omega, by omega⟩
  · rintro ⟨p, hp, h1, h2⟩
    refine ⟨p, hp, ?_⟩
    unfold oneF
    exact List.mem_map.2 ⟨(n - p.fr).toNat, List.mem_range.2 (by omega), by omega⟩
theorem sect_cons (p : Piece) (l : List Piece) : sectF (p :: l) = oneF p p.ct.toNat ++ sectF l := by simp [sectF]
theorem sect_append (a b : List Piece) : sectF (a ++ b) = sectF a ++ sectF b := by simp [sectF]
theorem sect_nodup : ∀ {l : List Piece}, (∀ p ∈ l, 0 ≤ p.ct) → l.Pairwise apart → (sectF l).Pairwise (fun a b => a ≠ b)
  | [], _, _ => .nil
  | p :: l, h, ha => by
    obtain ⟨h1, h2⟩ := List.pairwise_cons.1 ha
    rw [sect_cons]
    refine List.pairwise_append.2 ⟨?_, sect_nodup (fun q hq => h q (by simp [hq])) h2, fun a ha b hb e => ?_⟩
    · unfold oneF
      rw [List.pairwise_map]
      exact List.pairwise_lt_range.imp (fun {a b} h => by omega)
    · subst e
      unfold oneF at ha
      obtain ⟨k, hk, rfl⟩ := List.mem_map.1 ha
      rw [List.mem_range] at hk
      obtain ⟨q, hq, h3, h4⟩ := (sect_mem (fun q hq => h q (by simp [hq]))).1 hb
      have := h1 q hq
      unfold apart at this
      omega
theorem sect_total : ∀ {l : List Piece}, (∀ p ∈ l, 0 ≤ p.ct) → ((sectF l).length : Int) = totalF l
  | [], _ => rfl
  | p :: l, h => by
    have h0 := h p (by simp)
    have ih := sect_total (l := l) (fun q hq => h q (by simp [hq]))
    rw [sect_cons, List.length_append, one_length, totalF]
    omega
theorem may_mono {N M : Nat} {l : List Piece} (h : N ≤ M) (hm : mayP (N : Int) l) : mayP (M : Int) l :=
  ⟨fun p hp => by have := hm.1 p hp; unfold okP at this ⊢; omega, hm.2⟩
theorem may_check {N : Nat} {l : List Piece} (h : N ≤ 4096) (hm : mayP (N : Int) l) : checkR (N : Int) l = 0 ∧ checkR 4096 l = 0 := by
  have h1 := (may_length hm).1
  exact ⟨check_0 (by omega) (by omega) hm, check_0 (by omega) (by omega) (may_mono (M := 4096) h hm)⟩
theorem may_sub {N : Int} {l m : List Piece} (h : List.Sublist l m) (hm : mayP N m) : mayP N l := ⟨fun p hp => hm.1 p (h.subset hp), hm.2.sublist h⟩
theorem may_perm {N : Int} {l m : List Piece} (h : l.Perm m) (hm : mayP N m) : mayP N l := ⟨fun p hp => hm.1 p (h.mem_iff.1 hp), (h.pairwise_iff (R := apart) (fun h => apart_symm h)).2 hm.2⟩
theorem may_pos {N : Int} {l : List Piece} (hm : mayP N l) : ∀ p ∈ l, 0 ≤ p.ct := fun p hp => by have := hm.1 p hp; unfold okP at this; omega
theorem take_new {n : Nat} {used : List Piece} {m : Int} (hu : mayP (n : Int) used) (h : takeE 80 (n : Int) used m = 0) :
    mayP (n : Int) (used ++ takeL 80 (n : Int) used m) ∧ (∀ q ∈ takeL 80 (n : Int) used m, 80 ≤ q.fr) ∧ totalF (takeL 80 (n : Int) used m) = m ∧ n ≤ 4096 := by
  have h : takeE ((80 : Nat) : Int) (n : Int) used m = 0 := h
  obtain ⟨n', h1, h2, h3⟩ := takeL_runs h
  have h4 := (take_in h).2.2.1
  obtain ⟨_, _, h5, _⟩ := freeE_in h4
  have e : takeL 80 (n : Int) used m = takeL ((80 : Nat) : Int) (n : Int) used m := rfl
  rw [e, h2]
  refine ⟨both_may h1 hu, fun q hq => ?_, by rw [← h2]; exact h3, by omega⟩
  have := ((runs_ok _ _ _).pos q hq).2.1
  omega
abbrev New1 := Change × List Piece
def fileOf (x : New1) : File := ⟨x.1.key, x.1.value.length, x.2⟩
def putsN (N : List New1) : List disk.Put := N.flatMap (fun x => putsV x.2 x.1.value)
theorem puts_ok {n : Nat} : ∀ (l : List Change) {fs : List File} {zs : List disk.Act} {used : List Piece}, mayP (n : Int) used → (putsF (n : Int) l fs zs used).2.2 = 0 →
    ∃ N : List New1, N.map (·.1) = l ∧ (putsF (n : Int) l fs zs used).1 = fs ++ N.map fileOf ∧ (putsF (n : Int) l fs zs used).2.1 = zs ++ putA (putsN N) ∧ mayP (n : Int) (used ++ N.flatMap (·.2)) ∧
      ∀ x ∈ N, (∀ q ∈ x.2, 80 ≤ q.fr) ∧ totalF x.2 = needF x.1.value.length ∧ checkR 4096 x.2 = 0
  | [], fs, zs, used, hu, h => ⟨[], rfl, by simp [putsF], by simp [putsF, putsN, putA], by simpa using hu, fun x hx => by cases hx⟩
  | c :: l, fs, zs, used, hu, h => by
    rw [putsF] at h ⊢
    by_cases h1 : 4096 < needF c.value.length
    · rw [if_pos h1] at h; cases h
    · by_cases h2 : takeE 80 (n : Int) used (needF c.value.length) = 0
      · rw [if_neg h1, if_neg (fun x => x h2)] at h
        rw [if_neg h1, if_neg (fun x => x h2)]
        obtain ⟨t1, t2, t3, t4⟩ := take_new hu h2
        generalize takeL 80 (n : Int) used (needF c.value.length) = p at *
        have hp := may_sub (List.sublist_append_right used p) t1
        obtain ⟨N, k1, k2, k3, k4, k5⟩ := puts_ok l t1 h
        refine ⟨(c, p) :: N, by rw [List.map_cons, k1], ?_, ?_, ?_, fun x hx => ?_⟩
        · rw [k2, List.map_cons, List.append_assoc]; rfl
        · have e : putsN ((c, p) :: N) = putsV p c.value ++ putsN N := by simp [putsN]
          have e2 : ∀ a b, putA (a ++ b) = putA a ++ putA b := fun a b => by simp [putA]
          rw [k3, e, e2, List.append_assoc]; rfl
        · rw [List.flatMap_cons, ← List.append_assoc]; exact k4
        · rcases List.mem_cons.1 hx with rfl | hx
          · exact ⟨t2, t3, (may_check t4 hp).2⟩
          · exact k5 x hx
      · rw [if_neg h1, if_pos h2] at h
        exact absurd h h2
theorem range_getD (l : List Int) : (List.range l.length).map (fun i => l.getD i 0) = l := by
  refine List.ext_getElem (by simp) (fun i h1 h2 => ?_)
  rw [List.getElem_map, List.getElem_range, List.getD_eq_getElem?_getD, List.getElem?_eq_getElem h2]
  rfl
theorem putsV_sector (p : List Piece) (v : Bs) : (putsV p v).map (·.sector) = sectE p := by
  unfold putsV
  rw [List.map_map]
  exact range_getD _
theorem secV_length (v : Bs) (i : Nat) : (secV v i).length = 128 := by
  unfold secV
  simp only [List.length_append, List.length_replicate, List.length_take, List.length_drop]
  omega
theorem putsN_sector {N : List New1} (h : ∀ x ∈ N, checkR 4096 x.2 = 0) : (putsN N).map (·.sector) = sectF (N.flatMap (·.2)) := by
  induction N with
  | nil => rfl
  | cons x N ih =>
    rw [putsN, List.flatMap_cons, List.map_append, putsV_sector, List.flatMap_cons, sect_append]
    have e : sectE x.2 = sectF x.2 := by unfold sectE; rw [if_pos (h x (by simp))]
    rw [e]
    congr 1
    exact ih (fun y hy => h y (by simp [hy]))
/-- what is put -/
theorem putsN_ok {n : Nat} {used : List Piece} {N : List New1} (hm : mayP (n : Int) (used ++ N.flatMap (·.2))) (h : ∀ x ∈ N, (∀ q ∈ x.2, 80 ≤ q.fr) ∧ totalF x.2 = needF x.1.value.length ∧ checkR 4096 x.2 = 0) :
    (∀ p ∈ putsN N, 80 ≤ p.sector ∧ p.sector < (n : Int) ∧ p.data.length = 128 ∧ p.sector ∉ sectF used) ∧ (putsN N).Pairwise (fun p q => p.sector ≠ q.sector) ∧ (putsN N).length ≤ n := by
  have hs := putsN_sector (fun x hx => (h x hx).2.2)
  have hm2 := may_sub (List.sublist_append_right used _) hm
  have hn : (putsN N).Pairwise (fun p q => p.sector ≠ q.sector) := by
    rw [← List.pairwise_map (f := disk.Put.sector) (R := fun a b => a ≠ b), hs]
    exact sect_nodup (may_pos hm2) hm2.2
  refine ⟨fun p hp => ?_, hn, ?_⟩
  · have hmem : p.sector ∈ sectF (N.flatMap (·.2)) := by rw [← hs]; exact List.mem_map.2 ⟨p, hp, rfl⟩
    obtain ⟨q, hq, h1, h2⟩ := (sect_mem (may_pos hm2)).1 hmem
    have hok := hm2.1 q hq
    unfold okP at hok
    obtain ⟨x, hx, hqx⟩ := List.mem_flatMap.1 hq
    have h80 := (h x hx).1 q hqx
    refine ⟨by omega, by omega, ?_, fun hu => ?_⟩
    · obtain ⟨y, hy, hpy⟩ := List.mem_flatMap.1 hp
      unfold putsV at hpy
      obtain ⟨i, _, rfl⟩ := List.mem_map.1 hpy
      exact secV_length _ _
    · obtain ⟨r, hr, h3, h4⟩ := (sect_mem (may_pos (may_sub (List.sublist_append_left used _) hm))).1 hu
      have := (List.pairwise_append.1 hm.2).2.2 r hr q hq
      unfold apart at this
      omega
  · have e : (putsN N).length = (sectF (N.flatMap (·.2))).length := by rw [← hs, List.length_map]
    have h1 := sect_total (may_pos hm2)
    have h2 := (may_length hm2).2
    omega
/-- bytes in sectors, one behind the other, the last one filled up -/
theorem secs_take (v : Bs) : ∀ n, ((List.range n).flatMap (secV v)).take v.length = v.take (n * 128)
  | 0 => by simp
  | n + 1 => by
    have ih := secs_take v n
    have hl : ((List.range n).flatMap (secV v)).length = n * 128 := flat_length n (fun i _ => secV_length v i)
    rw [List.range_succ, List.flatMap_append, List.flatMap_cons, List.flatMap_nil, List.append_nil, Nat.succ_mul]
    by_cases h : v.length ≤ n * 128
    · rw [List.take_append_of_le_length (by omega), ih, List.take_of_length_le h, List.take_of_length_le (by omega)]
    · rw [List.take_append, ih, hl, List.take_add]
      congr 1
      unfold secV
      by_cases h2 : 128 ≤ v.length - n * 128
      · have e : ((v.drop (n * 128)).take 128).length = 128 := by rw [List.length_take, List.length_drop]; omega
        rw [e, Nat.sub_self, List.replicate_zero, List.append_nil, List.take_of_length_le (by omega)]
      · have e : ((v.drop (n * 128)).take 128).length = v.length - n * 128 := by rw [List.length_take, List.length_drop]; omega
        rw [List.take_append_of_le_length (by omega), List.take_of_length_le (by omega)]
/-- a file that is put is read -/
theorem bytes_new {y : Disk} {x : New1} (ht : totalF x.2 = needF x.1.value.length) (hc : checkR 4096 x.2 = 0) (h : ∀ p ∈ putsV x.2 x.1.value, disk.readF y p.sector = p.data) : bytesF y (fileOf x) = x.1.value := by
  unfold bytesF fileOf
  simp only
  have hk : ((sectE x.2).length : Int) = needF x.1.value.length := by
    unfold sectE
    rw [if_pos hc, ← ht]
    exact sect_total (fun p hp => by have := (check_ok hc).2.2.2.1 p hp; unfold okP at this; omega)
  have e : (sectE x.2).flatMap (fun n => disk.readF y n) = (List.range (sectE x.2).length).flatMap (secV x.1.value) := by
    conv => lhs; rw [← range_getD (sectE x.2)]
    rw [List.flatMap_map]
    exact flat_congr _ (fun i hi => h ⟨(sectE x.2).getD i 0, secV x.1.value i⟩ (by unfold putsV; exact List.mem_map.2 ⟨i, List.mem_range.2 hi, rfl⟩))
  rw [e, Int.toNat_natCast, secs_take, List.take_of_length_le]
  unfold needF at hk
  omega
/-- a file that stays is read as before -/
theorem bytes_old {d y : Disk} {f : File} (h : ∀ n ∈ sectE f.ps, disk.readF y n = disk.readF d n) : bytesF y f = bytesF d f := by
  unfold bytesF
  congr 1
  rw [List.flatMap_def, List.flatMap_def]
  congr 1
  exact List.map_congr_left h
theorem fread_length {d : Disk} (h : disk.checkF d = 0) {n : Int} (h0 : 0 ≤ n) (hn : n < d.count) : (disk.readF d n).length = 128 := by
  obtain ⟨k1, k2, k3, k4, k5⟩ := disk.check_ok h
  unfold disk.readF
  cases hl : disk.lastOf d.waits n with
  | some b =>
    obtain ⟨p, hp, h1, h2⟩ := lastOf_some hl
    rw [← h2]
    exact (k5 p hp).2.2
  | none =>
    show ((d.data.drop _).take 128).length = 128
    rw [List.length_take, List.length_drop]
    omega
end files
end Go.Proofs.YtpfehnopghffjaaGreatDoor
/-
  Layer 4, plain: the directory of a disk behind acts that are broken off, or done.
-/
namespace Go.Proofs.YtpfehnopghffjaaGreatDoor
open Go
namespace files
open room
theorem slot_same {d y : Disk} {n : Nat} (h : ∀ i, i < 8 → disk.readF y ((n + i : Nat) : Int) = disk.readF d ((n + i : Nat) : Int)) : slotB y n = slotB d n := flat_congr 8 h
theorem slot_new {y : Disk} {b : Bs} {n : Nat} (hb : b.length = 1024) (h : ∀ i, i < 8 → disk.readF y ((n + i : Nat) : Int) = (b.drop (i * 128)).take 128) : slotB y n = b := by
  unfold slotB
  rw [flat_congr 8 h, take_blocks, List.take_of_length_le (by omega)]
theorem slot_sec {y : Disk} (hc : disk.checkF y = 0) {n : Nat} (hn : ((n + 8 : Nat) : Int) ≤ y.count) {i : Nat} (hi : i < 8) : ((slotB y n).drop (i * 128)).take 128 = disk.readF y ((n + i : Nat) : Int) :=
  flat_block (f := fun i => disk.readF y ((n + i : Nat) : Int)) 8 (fun j hj => fread_length hc (by omega) (by omega)) i hi
theorem slot_ok_same {d y : Disk} {n : Nat} (hct : y.count = d.count) (h : slotB y n = slotB d n) : slotF y n = slotF d n ∧ (slotOK y n ↔ slotOK d n) := by
  have e : slotF y n = slotF d n := by unfold slotF; rw [h]
  refine ⟨e, ?_⟩
  unfold slotOK
  rw [e, h, hct]
theorem mount_eq {d : Disk} (h : (mountF d).2.2 = 0) : mountF d = (slotF d (mountF d).2.1, (mountF d).2.1, 0) := by
  obtain ⟨_, _, _, _, h5⟩ := mountF_ok h
  rw [← h5, ← h]
theorem mount_same {d y : Disk} (hd : (mountF d).2.2 = 0) (hy : disk.checkF y = 0) (hct : y.count = d.count) (h : ∀ i : Nat, i < 16 → disk.readF y (i : Int) = disk.readF d (i : Int)) : mountF y = mountF d := by
  obtain ⟨h1, h2, _⟩ := mountF_ok hd
  obtain ⟨e0, o0⟩ := slot_ok_same hct (slot_same (d := d) (y := y) (n := 0) (fun i hi => h (0 + i) (by omega)))
  obtain ⟨e8, o8⟩ := slot_ok_same hct (slot_same (d := d) (y := y) (n := 8) (fun i hi => h (8 + i) (by omega)))
  by_cases h3 : slotOK d 0 ∧ ¬ (slotOK d 8 ∧ (slotF d 0).gen < (slotF d 8).gen)
  · rw [mountF_0 h1 (by omega) h3.1 h3.2, mountF_0 hy (by omega) (o0.2 h3.1) (by rw [o8, e0, e8]; exact h3.2), e0]
  · by_cases h4 : slotOK d 8
    · rw [mountF_8 h1 (by omega) h3 h4, mountF_8 hy (by omega) (by rw [o0, o8, e0, e8]; exact h3) (o8.2 h4), e8]
    · exfalso
      rw [mountF_40 h1 (by omega) (fun h => h3 ⟨h, fun x => h4 x.1⟩) h4] at hd
      cases hd
theorem mount_old {d y : Disk} (hd : (mountF d).2.2 = 0) (hy : disk.checkF y = 0) (hct : y.count = d.count) (hat : ∀ i, i < 8 → disk.readF y (((mountF d).2.1 + i : Nat) : Int) = disk.readF d (((mountF d).2.1 + i : Nat) : Int)) (hno : ¬ slotOK y (8 - (mountF d).2.1)) : mountF y = mountF d := by
  obtain ⟨h1, h2, h3, h4, _⟩ := mountF_ok hd
  rw [mount_eq hd]
  obtain ⟨e, o⟩ := slot_ok_same hct (slot_same hat)
  rcases h3 with h3 | h3
  · rw [h3] at hno e o h4 ⊢
    rw [mountF_0 hy (by omega) (o.2 h4) (fun h => hno h.1), e]
  · rw [h3] at hno e o h4 ⊢
    rw [mountF_8 hy (by omega) (fun h => hno h.1) (o.2 h4), e]
theorem mount_new {d y : Disk} {x : Dir} {b : Bs} (hd : (mountF d).2.2 = 0) (hy : disk.checkF y = 0) (hct : y.count = d.count) (hat : ∀ i, i < 8 → disk.readF y (((mountF d).2.1 + i : Nat) : Int) = disk.readF d (((mountF d).2.1 + i : Nat) : Int))
    (hnew : ∀ i, i < 8 → disk.readF y ((8 - (mountF d).2.1 + i : Nat) : Int) = (b.drop (i * 128)).take 128) (hw : writeF x = (b, 0)) (hck : checkR d.count (allP x.fs) = 0) (hg : (mountF d).1.gen < x.gen) : mountF y = (x, 8 - (mountF d).2.1, 0) := by
  obtain ⟨h1, h2, h3, h4, h5⟩ := mountF_ok hd
  obtain ⟨e, o⟩ := slot_ok_same hct (slot_same hat)
  have hsb := slot_new (writeF_len hw) hnew
  have hr := read_write hw
  have en : slotF y (8 - (mountF d).2.1) = x := by unfold slotF; rw [hsb, hr]
  have on : slotOK y (8 - (mountF d).2.1) := by unfold slotOK; rw [en, hsb, hr, hct]; exact ⟨rfl, hck⟩
  rw [h5] at hg
  rcases h3 with h3 | h3
  · rw [h3] at e o h4 en on hg ⊢
    rw [mountF_8 hy (by omega) (fun h => h.2 ⟨on, by rw [e, en]; exact hg⟩) on, en]
  · rw [h3] at e o h4 en on hg ⊢
    rw [mountF_0 hy (by omega) on (fun h => by rw [en, e] at h; omega), en]
/-! the new number -/
theorem genTo_le (d : Disk) (o : Nat) (g : Int) : ∀ k, g ≤ genTo d o g k
  | 0 => Int.le_refl _
  | k + 1 => by
    have := genTo_le d o g k
    rw [genTo]
    split <;> omega
theorem genTo_get (d : Disk) (o : Nat) (g : Int) : ∀ k i, i < k → getTo ((disk.readF d ((o + i : Nat) : Int)).take 8) 8 < 4611686018427387904 → (getTo ((disk.readF d ((o + i : Nat) : Int)).take 8) 8 : Int) ≤ genTo d o g k
  | k + 1, i, hi, h => by
    rw [genTo]
    by_cases he : i = k
    · subst he
      rw [if_pos h]
      omega
    · have := genTo_get d o g k i (by omega) h
      split <;> omega
theorem genTo_bd (d : Disk) (o : Nat) (g : Int) (hg : g < 4611686018427387904) : ∀ k, genTo d o g k < 4611686018427387904
  | 0 => hg
  | k + 1 => by
    have := genTo_bd d o g hg k
    rw [genTo]
    split <;> omega
/-- each sector of a directory begins with its number -/
theorem write_gen {x : Dir} {b : Bs} (h : writeF x = (b, 0)) {i : Nat} (hi : i < 8) : (getTo (((b.drop (i * 128)).take 128).take 8) 8 : Int) = x.gen := by
  obtain ⟨hc, hb, rfl⟩ := writeF_ok h
  obtain ⟨_, hm⟩ := checkD_ok hc
  have hg := hm.1
  have hl : (bodyD x.fs ++ List.replicate (952 - (bodyD x.fs).length) (0 : UInt8)).length = 952 := by rw [List.length_append, List.length_replicate]; omega
  rw [slotsD_sec hl hi]
  unfold secD
  rw [List.append_assoc, List.take_left' (put8_length _)]
  have := getTo_put8 (n := x.gen.toNat) [] (by omega)
  rw [List.append_nil] at this
  rw [this]
  omega
theorem mix_bad {d y : Disk} {x : Dir} {b : Bs} {o : Nat} (hc : disk.checkF y = 0) (ho : ((o + 8 : Nat) : Int) ≤ y.count) (hw : writeF x = (b, 0))
    (hg : ∀ i, i < 8 → getTo ((disk.readF d ((o + i : Nat) : Int)).take 8) 8 < 4611686018427387904 → (getTo ((disk.readF d ((o + i : Nat) : Int)).take 8) 8 : Int) < x.gen)
    (hmix : ∀ i, i < 8 → disk.readF y ((o + i : Nat) : Int) = disk.readF d ((o + i : Nat) : Int) ∨ disk.readF y ((o + i : Nat) : Int) = (b.drop (i * 128)).take 128)
    {i0 i1 : Nat} (h0 : i0 < 8) (h1 : i1 < 8) (hn : ¬ disk.readF y ((o + i0 : Nat) : Int) = (b.drop (i0 * 128)).take 128) (hy : disk.readF y ((o + i1 : Nat) : Int) = (b.drop (i1 * 128)).take 128) : ¬ slotOK y o := by
  intro hs
  obtain ⟨hwr, _, hm, _⟩ := slot_may hs
  have key : ∀ i, i < 8 → (getTo ((disk.readF y ((o + i : Nat) : Int)).take 8) 8 : Int) = (slotF y o).gen := fun i hi => by
    have := write_gen hwr hi
    rwa [slot_sec hc ho hi] at this
  have k1 := key i1 h1
  rw [hy, write_gen hw h1] at k1
  have k0 := key i0 h0
  rcases hmix i0 h0 with h | h
  · rw [h] at k0
    have := hm.1.2
    have := hg i0 h0 (by omega)
    omega
  · exact hn h
theorem filter_flat {α β : Type} (p : α → Bool) (f : α → List β) : ∀ l : List α, List.Sublist ((l.filter p).flatMap f) (l.flatMap f)
  | [] => .slnil
  | a :: l => by
    rw [List.filter_cons]
    split
    · rw [List.flatMap_cons, List.flatMap_cons]
      exact List.Sublist.append (List.Sublist.refl _) (filter_flat p f l)
    · rw [List.flatMap_cons]
      exact (filter_flat p f l).trans (List.sublist_append_right _ _)
theorem flatMap_fileOf (N : List New1) : allP (N.map fileOf) = N.flatMap (·.2) := by
  unfold allP
  rw [List.flatMap_map]
  rfl
/-- what a turn that can be had comes to -/
structure Turned (d : Disk) (l : List Change) (N : List New1) (b : Bs) : Prop where
  mt : (mountF d).2.2 = 0
  wr : wrongF (mountF d).1 l = 0
  fr : N.map (·.1) = freshN l
  may : mayP (d.count.toNat : Int) (allP (mountF d).1.fs ++ N.flatMap (·.2))
  each : ∀ x ∈ N, (∀ q ∈ x.2, 80 ≤ q.fr) ∧ totalF x.2 = needF x.1.value.length ∧ checkR 4096 x.2 = 0
  wrt : writeF (turnD d (mountF d).1 (mountF d).2.1 (keepN (mountF d).1 l ++ N.map fileOf)) = (b, 0)
  acts : (turnF d l).1 = actsSD (putsN N) (dirP b (8 - (mountF d).2.1))
theorem actsN_eq (S : List disk.Put) (b : Bs) (o : Nat) : actsN (putA S) b o = actsSD S (dirP b o) := by
  unfold actsN actsSD flushS dirA
  have e : (putA S = []) ↔ (S = []) := by unfold putA; simp
  by_cases h : S = []
  · rw [if_pos h, if_pos (e.2 h)]
  · rw [if_neg h, if_neg (fun x => h (e.1 x))]
theorem turnF_w {d : Disk} {l : List Change} (h1 : (mountF d).2.2 = 0) (h2 : wrongF (mountF d).1 l = 0) (h3 : ¬ 32 < (keepN (mountF d).1 l).length + (freshN l).length) (h4 : (putsF d.count (freshN l) (keepN (mountF d).1 l) [] (allP (mountF d).1.fs)).2.2 = 0) :
    turnF d l = if ¬ (writeF (turnD d (mountF d).1 (mountF d).2.1 (putsF d.count (freshN l) (keepN (mountF d).1 l) [] (allP (mountF d).1.fs)).1)).2 = 0 then ([], 42) else
      (actsN (putsF d.count (freshN l) (keepN (mountF d).1 l) [] (allP (mountF d).1.fs)).2.1 (writeF (turnD d (mountF d).1 (mountF d).2.1 (putsF d.count (freshN l) (keepN (mountF d).1 l) [] (allP (mountF d).1.fs)).1)).1 (8 - (mountF d).2.1), 0) := by
  unfold turnF
  rw [if_neg (fun x => x h1), if_neg (fun x => x h2), if_neg h3, if_neg (fun x => x h4)]
theorem turned_of {d : Disk} {l : List Change} (h : (turnF d l).2 = 0) : ∃ N b, Turned d l N b := by
  by_cases h1 : (mountF d).2.2 = 0
  · by_cases h2 : wrongF (mountF d).1 l = 0
    · by_cases h3 : 32 < (keepN (mountF d).1 l).length + (freshN l).length
      · unfold turnF at h; rw [if_neg (fun x => x h1), if_neg (fun x => x h2), if_pos h3] at h; cases h
      · by_cases h4 : (putsF d.count (freshN l) (keepN (mountF d).1 l) [] (allP (mountF d).1.fs)).2.2 = 0
        · have hm := mount_may h1
          have hct : ((d.count.toNat : Nat) : Int) = d.count := Int.toNat_of_nonneg (by omega)
          have hck := (check_ok hm.2.2.2.2.1).2.2.2
          rw [← hct] at hck h4
          obtain ⟨N, k1, k2, k3, k4, k5⟩ := puts_ok (freshN l) hck h4
          rw [hct] at h4 k2 k3
          have ha := turnF_w h1 h2 h3 h4
          rw [k2, k3] at ha
          rw [ha] at h
          by_cases h5 : (writeF (turnD d (mountF d).1 (mountF d).2.1 (keepN (mountF d).1 l ++ N.map fileOf))).2 = 0
          · rw [if_neg (fun x => x h5)] at ha
            have ha := congrArg Prod.fst ha
            refine ⟨N, (writeF (turnD d (mountF d).1 (mountF d).2.1 (keepN (mountF d).1 l ++ N.map fileOf))).1, h1, h2, k1, k4, k5, Prod.ext rfl h5, ?_⟩
            rw [ha, List.nil_append, actsN_eq]
          · rw [if_pos h5] at h; cases h
        · unfold turnF at h; rw [if_neg (fun x => x h1), if_neg (fun x => x h2), if_neg h3, if_pos h4] at h; exact absurd h h4
    · unfold turnF at h; rw [if_neg (fun x => x h1), if_pos h2] at h; exact absurd h h2
  · unfold turnF at h; rw [if_pos h1] at h; exact absurd h h1
section
variable {d : Disk} {l : List Change} {N : List New1} {b : Bs}
theorem Turned.count (h : Turned d l N b) : ((d.count.toNat : Nat) : Int) = d.count := by have := (mount_may h.mt).2.1; exact Int.toNat_of_nonneg (by omega)
theorem Turned.at_ (h : Turned d l N b) : (mountF d).2.1 = 0 ∨ (mountF d).2.1 = 8 := (mountF_ok h.mt).2.2.1
theorem Turned.ck (h : Turned d l N b) : checkR d.count (allP (turnD d (mountF d).1 (mountF d).2.1 (keepN (mountF d).1 l ++ N.map fileOf)).fs) = 0 := by
  have hc := (check_ok (mount_may h.mt).2.2.2.2.1).2.1
  have hct := h.count
  rw [← hct]
  refine (may_check (by omega) ?_).1
  have e : (turnD d (mountF d).1 (mountF d).2.1 (keepN (mountF d).1 l ++ N.map fileOf)).fs = sortN (keepN (mountF d).1 l ++ N.map fileOf) := rfl
  rw [e]
  refine may_perm (m := allP (keepN (mountF d).1 l ++ N.map fileOf)) (sortN_perm.flatMap_right _) ?_
  have e2 : allP (keepN (mountF d).1 l ++ N.map fileOf) = allP (keepN (mountF d).1 l) ++ N.flatMap (·.2) := by rw [← flatMap_fileOf]; simp [allP]
  rw [e2]
  exact may_sub (List.Sublist.append (filter_flat _ _ _) (List.Sublist.refl _)) h.may
theorem Turned.gen (h : Turned d l N b) : (mountF d).1.gen < (turnD d (mountF d).1 (mountF d).2.1 (keepN (mountF d).1 l ++ N.map fileOf)).gen := by
  show _ < genTo d (8 - (mountF d).2.1) (mountF d).1.gen 8 + 1
  have := genTo_le d (8 - (mountF d).2.1) (mountF d).1.gen 8
  omega
theorem Turned.gens (h : Turned d l N b) : ∀ i, i < 8 → getTo ((disk.readF d ((8 - (mountF d).2.1 + i : Nat) : Int)).take 8) 8 < 4611686018427387904 → (getTo ((disk.readF d ((8 - (mountF d).2.1 + i : Nat) : Int)).take 8) 8 : Int) < (turnD d (mountF d).1 (mountF d).2.1 (keepN (mountF d).1 l ++ N.map fileOf)).gen := fun i hi hb => by
  show _ < genTo d (8 - (mountF d).2.1) (mountF d).1.gen 8 + 1
  have := genTo_get d (8 - (mountF d).2.1) (mountF d).1.gen 8 i hi hb
  omega
theorem Turned.okS (h : Turned d l N b) : (∀ p ∈ putsN N, 80 ≤ p.sector ∧ p.sector < d.count ∧ p.data.length = 128 ∧ p.sector ∉ sectF (allP (mountF d).1.fs)) ∧ (putsN N).Pairwise (fun p q => p.sector ≠ q.sector) ∧ ((putsN N).length : Int) ≤ d.count := by
  obtain ⟨h1, h2, h3⟩ := putsN_ok h.may h.each
  rw [h.count] at h1
  have := h.count
  exact ⟨h1, h2, by omega⟩
theorem Turned.putsS (h : Turned d l N b) : OkPuts d (putsN N) := fun p hp => by have := h.okS.1 p hp; exact ⟨by omega, this.2.1, this.2.2.1⟩
theorem dirP_mem {b : Bs} {o : Nat} {p : disk.Put} : p ∈ dirP b o ↔ ∃ i, i < 8 ∧ p = ⟨((o + i : Nat) : Int), (b.drop (i * 128)).take 128⟩ := by
  unfold dirP
  rw [List.mem_map]
  exact ⟨fun ⟨i, hi, e⟩ => ⟨i, List.mem_range.1 hi, e.symm⟩, fun ⟨i, hi, e⟩ => ⟨i, List.mem_range.2 hi, e.symm⟩⟩
theorem Turned.putsD (h : Turned d l N b) : OkPuts d (dirP b (8 - (mountF d).2.1)) := fun p hp => by
  obtain ⟨i, hi, rfl⟩ := dirP_mem.1 hp
  have h2 := (mount_may h.mt).2.1
  have h3 := h.at_
  have hl := writeF_len h.wrt
  refine ⟨by show (0 : Int) ≤ ((_ : Nat) : Int); omega, by show ((_ : Nat) : Int) < _; omega, ?_⟩
  show (List.take _ _).length = _
  rw [List.length_take, List.length_drop]
  omega
theorem dirP_last {b : Bs} {o i : Nat} (hi : i < 8) : disk.lastOf (dirP b o) ((o + i : Nat) : Int) = some ((b.drop (i * 128)).take 128) := by
  have hp : (dirP b o).Pairwise (fun p q => p.sector ≠ q.sector) := by
    unfold dirP
    rw [List.pairwise_map]
    refine List.pairwise_lt_range.imp (fun {a c} h e => ?_)
    have e : ((o + a : Nat) : Int) = ((o + c : Nat) : Int) := e
    omega
  exact lastOf_of hp (dirP_mem.2 ⟨i, hi, rfl⟩)
theorem dirP_none {b : Bs} {o : Nat} {n : Int} (h : n < o ∨ ((o + 8 : Nat) : Int) ≤ n) : ∀ p ∈ dirP b o, ¬ p.sector = n := fun p hp e => by
  obtain ⟨i, hi, rfl⟩ := dirP_mem.1 hp
  have e : ((o + i : Nat) : Int) = n := e
  omega
/-- a disk holds the files v -/
def Holds (y : Disk) (v : List NV) : Prop := (mountF y).2.2 = 0 ∧ viewF y = v
theorem sectE_sub {f : File} (hf : f ∈ (mountF d).1.fs) {n : Int} (hn : n ∈ sectE f.ps) : n ∈ sectF (allP (mountF d).1.fs) := by
  unfold sectE at hn
  split at hn
  · unfold sectF at hn ⊢
    obtain ⟨p, hp, h⟩ := List.mem_flatMap.1 hn
    exact List.mem_flatMap.2 ⟨p, List.mem_flatMap.2 ⟨f, hf, hp⟩, h⟩
  · cases hn
theorem Turned.sect (h : Turned d l N b) {n : Int} (hn : n ∈ sectF (allP (mountF d).1.fs)) : 80 ≤ n ∧ n < d.count ∧ ∀ p ∈ putsN N, ¬ p.sector = n := by
  obtain ⟨_, _, _, hm, hck, _⟩ := mount_may h.mt
  have hmp := (check_ok hck).2.2.2
  obtain ⟨q, hq, h1, h2⟩ := (sect_mem (may_pos hmp)).1 hn
  have h3 := hmp.1 q hq
  have h4 := hm.2.2.1 q hq
  unfold okP at h3
  exact ⟨by omega, by omega, fun p hp e => (h.okS.1 p hp).2.2.2 (by rw [e]; exact hn)⟩
/-- nothing that counts has turned -/
theorem Turned.before (h : Turned d l N b) {y : Disk} (hy : disk.checkF y = 0) (hct : y.count = d.count) (hm : mountF y = mountF d) (hs : ∀ n, 80 ≤ n → n < d.count → (∀ p ∈ putsN N, ¬ p.sector = n) → disk.readF y n = disk.readF d n) : Holds y (viewF d) := by
  refine ⟨by rw [hm]; exact h.mt, ?_⟩
  unfold viewF
  rw [hm]
  refine List.map_congr_left (fun f hf => ?_)
  rw [bytes_old (fun n hn => ?_)]
  obtain ⟨h1, h2, h3⟩ := h.sect (sectE_sub hf hn)
  exact hs n h1 h2 h3
/-- all is done -/
theorem Turned.behind (h : Turned d l N b) {y : Disk} (hy : disk.checkF y = 0) (hct : y.count = d.count) (hr : ∀ n, 0 ≤ n → n < d.count → (n < ((8 - (mountF d).2.1 : Nat) : Int) ∨ ((8 - (mountF d).2.1 + 8 : Nat) : Int) ≤ n) → disk.readF y n = match disk.lastOf (putsN N) n with | some x => x | none => disk.readF d n)
    (hn : ∀ i, i < 8 → disk.readF y ((8 - (mountF d).2.1 + i : Nat) : Int) = (b.drop (i * 128)).take 128) : mountF y = (turnD d (mountF d).1 (mountF d).2.1 (keepN (mountF d).1 l ++ N.map fileOf), 8 - (mountF d).2.1, 0) ∧ Holds y (map2F d l) := by
  have h2 := (mount_may h.mt).2.1
  have h3 := h.at_
  have hmt : mountF y = (turnD d (mountF d).1 (mountF d).2.1 (keepN (mountF d).1 l ++ N.map fileOf), 8 - (mountF d).2.1, 0) := by
    refine mount_new h.mt hy hct (fun i hi => ?_) hn h.wrt h.ck h.gen
    rw [hr _ (by omega) (by omega) (by omega), lastOf_none (fun p hp e => by have := (h.okS.1 p hp).1; omega)]
  refine ⟨hmt, by rw [hmt], ?_⟩
  refine view_turned h.mt h.wr (news := N.map fileOf) (by rw [hmt]; rfl) ?_ (fun f hf => bytes_old (fun n hn => ?_)) (by rw [hmt])
  · rw [← h.fr, List.map_map, List.map_map]
    refine List.map_congr_left (fun x hx => ?_)
    show ((fileOf x).name, bytesF y (fileOf x)) = (x.1.key, x.1.value)
    rw [bytes_new (h.each x hx).2.1 (h.each x hx).2.2 (fun p hp => ?_)]
    · rfl
    · have hp2 : p ∈ putsN N := List.mem_flatMap.2 ⟨x, hx, hp⟩
      have h4 := h.okS.1 p hp2
      rw [hr _ (by omega) (by omega) (by omega), lastOf_of h.okS.2.1 hp2]
  · obtain ⟨h5, h6, h7⟩ := h.sect (sectE_sub (List.mem_filter.1 hf).1 hn)
    rw [hr _ (by omega) (by omega) (by omega), lastOf_none h7]
/-- acts broken off: all of before, or all of behind -/
theorem Turned.crash (h : Turned d l N b) (hw : d.waits = []) {n : Nat} (hn : n ≤ (turnF d l).1.length) : ∃ x, disk.doF d ((turnF d l).1.take n) = (x, 0) ∧ disk.checkF x = 0 ∧ x.count = d.count ∧ (n = (turnF d l).1.length → x.waits = [] ∧ Holds x (map2F d l)) ∧
    ∀ keep, Holds (disk.settleD x keep) (map2F d l) ∨ n < (turnF d l).1.length ∧ Holds (disk.settleD x keep) (viewF d) := by
  have hc := (mount_may h.mt).1
  have h2 := (mount_may h.mt).2.1
  have h3 := h.at_
  have hc4 := (check_ok (mount_may h.mt).2.2.2.2.1).2.1
  have hSl : (putsN N).length ≤ 4096 := by have := h.okS.2.2; omega
  have hDl : (dirP b (8 - (mountF d).2.1)).length ≤ 4096 := by unfold dirP; simp
  rw [h.acts] at hn ⊢
  obtain ⟨x, k1, k2, k3, k4, k5⟩ := do_take hc hw h.putsS h.putsD hSl hDl hn
  have hfull : ∀ {y : Disk}, disk.checkF y = 0 → y.count = d.count → (∀ m, 0 ≤ m → m < d.count → disk.readF y m = disk.readF (waitD d (putsN N ++ dirP b (8 - (mountF d).2.1))) m) → Holds y (map2F d l) := fun {y} hy hct hr => by
    refine (h.behind hy hct (fun m h0 hm hno => ?_) (fun i hi => ?_)).2
    · rw [hr m h0 hm, read_wait_app, lastOf_none (dirP_none hno)]
      exact read_wait d _ m hw
    · rw [hr _ (by omega) (by omega), read_wait_app, dirP_last hi]
  refine ⟨x, k1, k2, k3, fun e => ⟨(k4 e).1, hfull k2 k3 (k4 e).2⟩, fun keep => ?_⟩
  obtain ⟨j1, j2⟩ := k5 keep
  have hy := disk.check_settle k2 keep
  have hct : (disk.settleD x keep).count = d.count := k3
  by_cases hne : n = (actsSD (putsN N) (dirP b (8 - (mountF d).2.1))).length
  · exact .inl (hfull hy hct (j2 hne))
  · generalize disk.settleD x keep = y at *
    have hlt : n < (actsSD (putsN N) (dirP b (8 - (mountF d).2.1))).length := by omega
    rcases j1 with j1 | j1
    · refine .inr ⟨hlt, h.before hy hct (mount_same h.mt hy hct (fun i hi => j1 _ (by omega) (by omega) (fun p hp e => by have := (h.okS.1 p hp).1; omega))) (fun m h0 hm hno => j1 m (by omega) hm hno)⟩
    · have hS : ∀ m, 0 ≤ m → m < d.count → (m < ((8 - (mountF d).2.1 : Nat) : Int) ∨ ((8 - (mountF d).2.1 + 8 : Nat) : Int) ≤ m) → disk.readF y m = match disk.lastOf (putsN N) m with | some x => x | none => disk.readF d m := fun m h0 hm hno => by
        rcases j1 m h0 hm with j | ⟨p, hp, e, _⟩
        · rw [j]; exact read_wait d _ m hw
        · exact absurd e (dirP_none hno p hp)
      have hD : ∀ i, i < 8 → disk.readF y ((8 - (mountF d).2.1 + i : Nat) : Int) = disk.readF d ((8 - (mountF d).2.1 + i : Nat) : Int) ∨ disk.readF y ((8 - (mountF d).2.1 + i : Nat) : Int) = (b.drop (i * 128)).take 128 := fun i hi => by
        rcases j1 ((8 - (mountF d).2.1 + i : Nat) : Int) (by omega) (by omega) with j | ⟨p, hp, e, e2⟩
        · left
          rw [j, read_wait_no hw (fun p hp e => by have := (h.okS.1 p hp).1; omega)]
        · right
          obtain ⟨k, hk, rfl⟩ := dirP_mem.1 hp
          have e : ((8 - (mountF d).2.1 + k : Nat) : Int) = ((8 - (mountF d).2.1 + i : Nat) : Int) := e
          obtain rfl : k = i := by omega
          exact e2.symm
      by_cases hall : ∀ i, i < 8 → disk.readF y ((8 - (mountF d).2.1 + i : Nat) : Int) = (b.drop (i * 128)).take 128
      · exact .inl (h.behind hy hct hS hall).2
      · refine .inr ⟨hlt, ?_⟩
        have hbef : mountF y = mountF d → Holds y (viewF d) := fun hm => h.before hy hct hm (fun m h0 hm hno => by rw [hS m (by omega) hm (by omega), lastOf_none hno])
        have hat : ∀ i, i < 8 → disk.readF y (((mountF d).2.1 + i : Nat) : Int) = disk.readF d (((mountF d).2.1 + i : Nat) : Int) := fun i hi => by
          rw [hS _ (by omega) (by omega) (by omega), lastOf_none (fun p hp e => by have := (h.okS.1 p hp).1; omega)]
        by_cases hno : ∀ i, i < 8 → disk.readF y ((8 - (mountF d).2.1 + i : Nat) : Int) = disk.readF d ((8 - (mountF d).2.1 + i : Nat) : Int)
        · refine hbef (mount_same h.mt hy hct (fun i hi => ?_))
          by_cases hi2 : (8 - (mountF d).2.1) ≤ i ∧ i < 8 - (mountF d).2.1 + 8
          · have := hno (i - (8 - (mountF d).2.1)) (by omega)
            rwa [show 8 - (mountF d).2.1 + (i - (8 - (mountF d).2.1)) = i by omega] at this
          · have := hat (i - (mountF d).2.1) (by omega)
            rwa [show (mountF d).2.1 + (i - (mountF d).2.1) = i by omega] at this
        · obtain ⟨i0, hi0⟩ := Classical.not_forall.1 hall
          obtain ⟨h8, hi0⟩ := Classical.not_imp.1 hi0
          obtain ⟨i1, hi1⟩ := Classical.not_forall.1 hno
          obtain ⟨h9, hi1⟩ := Classical.not_imp.1 hi1
          exact hbef (mount_old h.mt hy hct hat (mix_bad hy (by omega) h.wrt h.gens hD h8 h9 hi0 ((hD i1 h9).resolve_left hi1)))
end
end files
end Go.Proofs.YtpfehnopghffjaaGreatDoor
