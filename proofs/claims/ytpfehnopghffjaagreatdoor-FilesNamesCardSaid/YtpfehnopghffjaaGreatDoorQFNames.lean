/-
  Package files: the chapter's examples.
-/
import Derived.Test.YtpfehnopghffjaaGreatDoorQFDone
set_option linter.unusedVariables false
set_option linter.unusedSimpArgs false
set_option maxRecDepth 20000
namespace Go.Proofs.YtpfehnopghffjaaGreatDoor
open Go
open room files
namespace files
theorem f100_room : roomF F100 = (20, 0) := by
  rw [room_total (by rw [f100_mount]), f100_mount]
  rfl
theorem f95 : formatF 95 = (disk.nodisk, 20) := formatF_20 (.inl (by decide))
def Z100 : Disk := ⟨100, List.replicate 12800 0, []⟩
theorem z_new : disk.newF 100 = (Z100, 0) := by unfold disk.newF; rw [if_neg (by omega)]; rfl
theorem z_check : disk.checkF Z100 = 0 := by
  unfold disk.checkF
  rw [if_neg]
  · rfl
  · show ¬ ((100 : Int) < 1 ∨ (4096 : Int) < 100 ∨ ¬ (((List.replicate 12800 (0 : UInt8)).length : Nat) : Int) = 100 * 128 ∨ 4096 < 0)
    rw [List.length_replicate]
    omega
theorem z_read {n : Nat} (h : n < 100) : disk.readF Z100 (n : Int) = List.replicate 128 0 := by
  show ((List.replicate 12800 (0 : UInt8)).drop (n * 128)).take 128 = _
  rw [List.drop_replicate, List.take_replicate, Nat.min_eq_left (by omega)]
theorem z_no {n : Nat} (hn : n + 8 ≤ 100) : ¬ slotOK Z100 n := fun h => by
  obtain ⟨h1, _, h3, _⟩ := slot_may h
  have h5 := write_gen h1 (i := 0) (by omega)
  rw [slot_sec z_check (by show ((n + 8 : Nat) : Int) ≤ 100; omega) (by omega), z_read (by omega), getTo_zero] at h5
  have := h3.1.1
  omega
theorem z_mount : (mountF Z100).2.2 = 40 := by
  rw [mountF_40 z_check (by show ¬ (100 : Int) < 96; decide) (z_no (by omega)) (z_no (by omega))]
def chA (v : Bs) : Change := ⟨[97], v, false⟩
noncomputable def bA : Bs := (writeF dirA1).1
theorem bA_w : writeF dirA1 = (bA, 0) := Prod.ext rfl dirA1_w
theorem bA_l : bA.length = 1024 := writeF_len bA_w
theorem acts_100 {v : Bs} (hv : v.length = 130) : ∃ c0 c1, turnF F100 [chA v] = ([⟨false, 80, c0⟩, ⟨false, 81, c1⟩, flushA] ++ dirA bA 8 ++ [flushA], 0) := by
  have hm : (mountF F100).2.2 = 0 := by rw [f100_mount]
  have hw : wrongF (mountF F100).1 [chA v] = 0 := by rw [f100_mount]; exact putA_wrong
  have hk : keepN (mountF F100).1 [chA v] = [] := by rw [f100_mount]; rfl
  have hf : freshN [chA v] = [chA v] := rfl
  have ha : allP (mountF F100).1.fs = [] := by rw [f100_mount]; rfl
  have hn : needF ((chA v).value.length : Int) = 2 := by show needF (v.length : Int) = 2; rw [hv]; exact need_130
  have hp : putsF F100.count (freshN [chA v]) (keepN (mountF F100).1 [chA v]) [] (allP (mountF F100).1.fs) = ([⟨[97], 130, [⟨80, 2⟩]⟩], [] ++ actsV [⟨80, 2⟩] v, 0) := by
    rw [hk, hf, ha]
    show putsF 100 _ _ _ _ = _
    rw [putsF, hn, if_neg (by decide), if_neg (by rw [take_100.1]; exact fun h => h rfl), take_100.2, putsF]
    show ([] ++ [(⟨[97], (v.length : Int), [⟨80, 2⟩]⟩ : File)], _) = _
    rw [hv]
    rfl
  have ht : turnD F100 (mountF F100).1 (mountF F100).2.1 [⟨[97], 130, [⟨80, 2⟩]⟩] = dirA1 := by
    unfold turnD genN
    rw [f100_mount]
    show (⟨genTo F100 (8 - 0) 1 8 + 1, _⟩ : Dir) = _
    rw [f100_gen 8 (Nat.le_refl _)]
    rfl
  have hs : sectE [(⟨80, 2⟩ : Piece)] = [80, 81] := by decide
  have hz : actsV [(⟨80, 2⟩ : Piece)] v = [⟨false, 80, secV v 0⟩, ⟨false, 81, secV v 1⟩] := by
    unfold actsV putA putsV
    rw [hs]
    rfl
  refine ⟨secV v 0, secV v 1, ?_⟩
  rw [turnF_0 hm hw (by rw [hk, hf]; show ¬ 32 < 1; decide) hp (by rw [ht]; exact dirA1_w), ht, List.nil_append, hz, f100_mount]
  unfold actsN
  rw [if_neg (by intro h; cases h)]
  rfl
theorem acts_len {v : Bs} (hv : v.length = 130) : (turnF F100 [chA v]).1.length = 12 := by
  obtain ⟨c0, c1, h⟩ := acts_100 hv
  rw [h]
  rfl
theorem dirP_data (b : Bs) (o : Nat) : (dirP b o).flatMap (·.data) = b.take 1024 := by
  unfold dirP
  rw [List.flatMap_map]
  exact take_blocks b 128 8
theorem putA_inj {a b : List disk.Put} (h : putA a = putA b) : a = b := by
  unfold putA at h
  refine List.map_inj_right (f := fun p => (⟨false, p⟩ : disk.Act)) (fun x y e => ?_) |>.1 h
  cases e
  rfl
theorem bytes_of_acts {S : List disk.Put} {X : List disk.Act} {b c : Bs} {o : Nat} (hb : b.length = 1024) (hc : c.length = 1024) (h : actsSD S (dirP b o) = X ++ dirA c o ++ [flushA]) : b = c := by
  unfold actsSD at h
  have hl : ∀ b : Bs, (putA (dirP b o)).length = 8 := fun b => by unfold putA dirP; simp
  have h1 := List.append_inj_left' h rfl
  have h2 := List.append_inj_right' h1 (by rw [hl]; unfold dirA; rw [hl])
  have h3 := putA_inj (show putA (dirP b o) = putA (dirP c o) from h2)
  have h4 := congrArg (fun l => l.flatMap (·.data)) h3
  simp only [dirP_data] at h4
  rwa [List.take_of_length_le (by omega), List.take_of_length_le (by omega)] at h4
theorem dir_of {d : Disk} {l : List Change} {N : List New1} {b c : Bs} {x : Dir} {X : List disk.Act} (h : Turned d l N b) (hw : writeF x = (c, 0)) (ha : (turnF d l).1 = X ++ dirA c (8 - (mountF d).2.1) ++ [flushA]) : turnD d (mountF d).1 (mountF d).2.1 (keepN (mountF d).1 l ++ N.map fileOf) = x := by
  have hb := bytes_of_acts (writeF_len h.wrt) (writeF_len hw) (h.acts.symm.trans ha)
  subst hb
  have h1 := read_write h.wrt
  rw [read_write hw] at h1
  exact (Prod.mk.inj h1).1.symm
theorem next_100 {v : Bs} (hv : v.length = 130) : ∃ x, disk.doF F100 (turnF F100 [chA v]).1 = (x, 0) ∧ x.count = 100 ∧ x.waits = [] ∧ mountF x = (dirA1, 8, 0) ∧ roomF x = (18, 0) ∧ ∀ i, i < 8 → disk.readF x ((0 + i : Nat) : Int) = (b1.drop (i * 128)).take 128 := by
  obtain ⟨N, b, ht⟩ := turned_of (f100_turn hv)
  obtain ⟨x, k1, k2, k3, k4, ⟨k5, k6⟩, k7⟩ := ht.doneR (by show ((0 : Nat) : Int) + 100 + 8 ≤ 4096; omega)
  obtain ⟨c0, c1, h2⟩ := acts_100 hv
  have hd := dir_of ht bA_w (X := [⟨false, 80, c0⟩, ⟨false, 81, c1⟩, flushA]) (by show (turnF F100 [chA v]).1 = _; rw [h2, f100_mount]; rfl)
  rw [hd] at k5
  have hm : mountF x = (dirA1, 8, 0) := by rw [k5, f100_mount]; rfl
  have hc : x.count = 100 := k3
  refine ⟨x, k1, hc, k4, hm, ?_, fun i hi => ?_⟩
  · rw [room_total (by rw [hm]), hm, hc]
    rfl
  · have := k7 i hi
    rw [f100_mount] at this
    exact this.trans (f100_low hi)
def dirB1 : Dir := ⟨3, [⟨[98], 0, []⟩]⟩
theorem dirB1_w : (writeF dirB1).2 = 0 := by
  have hc : checkD dirB1 = 0 := by
    refine checkD_0 (by show ¬ 32 < 1; decide) ⟨⟨by decide, by decide⟩, by decide, (fun p hp => ?_), (fun i h => ?_)⟩
    · have hp : p ∈ ([] : List Piece) := hp
      cases hp
    · have h : i < 1 := h
      obtain rfl : i = 0 := by omega
      exact ⟨(by decide : nameF [98] = true), fun h0 => absurd h0 (by decide), (by decide : (0 : Int) ≤ 0), (by decide : (0 : Int) ≤ 524288), (by decide : manyF [] = needF 0)⟩
  have hb : ¬ 952 < (bodyD dirB1.fs).length := by decide
  rw [writeF_0 hc hb]
noncomputable def bB : Bs := (writeF dirB1).1
theorem bB_w : writeF dirB1 = (bB, 0) := Prod.ext rfl dirB1_w
def chsB : List Change := [⟨[97], [], true⟩, ⟨[98], [], false⟩]
theorem wrong_B : wrongF dirA1 chsB = 0 := by decide
theorem take_B : takeE 80 100 [⟨80, 2⟩] 0 = 0 ∧ takeL 80 100 [⟨80, 2⟩] 0 = [] := by decide
theorem gen_B {x : Disk} (h : ∀ i, i < 8 → disk.readF x ((0 + i : Nat) : Int) = (b1.drop (i * 128)).take 128) : ∀ k, k ≤ 8 → genTo x 0 2 k = 2
  | 0, _ => rfl
  | k + 1, hk => by
    have h1 := write_gen b1_w (i := k) (by omega)
    have h1 : ((getTo (((b1.drop (k * 128)).take 128).take 8) 8 : Nat) : Int) = 1 := h1
    rw [genTo_s, gen_B h k (by omega), h k (by omega), if_pos (by omega), h1]
    rfl
theorem turn_B {x : Disk} (hc : x.count = 100) (hm : mountF x = (dirA1, 8, 0)) (hr : ∀ i, i < 8 → disk.readF x ((0 + i : Nat) : Int) = (b1.drop (i * 128)).take 128) : ∃ X, turnF x chsB = (X ++ dirA bB 0 ++ [flushA], 0) := by
  have hm2 : (mountF x).2.2 = 0 := by rw [hm]
  have hw : wrongF (mountF x).1 chsB = 0 := by rw [hm]; exact wrong_B
  have hk : keepN (mountF x).1 chsB = [] := by rw [hm]; decide
  have hf : freshN chsB = [⟨[98], [], false⟩] := by decide
  have ha : allP (mountF x).1.fs = [⟨80, 2⟩] := by rw [hm]; rfl
  have hp : putsF x.count (freshN chsB) (keepN (mountF x).1 chsB) [] (allP (mountF x).1.fs) = ([⟨[98], 0, []⟩], [] ++ actsV [] [], 0) := by
    rw [hk, hf, ha, hc]
    rw [putsF]
    show (if 4096 < needF ((0 : Nat) : Int) then _ else if ¬ takeE 80 100 [⟨80, 2⟩] (needF ((0 : Nat) : Int)) = 0 then _ else _) = _
    have hz : needF ((0 : Nat) : Int) = 0 := by decide
    rw [hz, if_neg (by decide), if_neg (by rw [take_B.1]; exact fun h => h rfl)]
    show putsF 100 [] ([] ++ [⟨[98], 0, takeL 80 100 [⟨80, 2⟩] (needF ((0 : Nat) : Int))⟩]) ([] ++ actsV (takeL 80 100 [⟨80, 2⟩] (needF ((0 : Nat) : Int))) []) ([⟨80, 2⟩] ++ takeL 80 100 [⟨80, 2⟩] (needF ((0 : Nat) : Int))) = _
    rw [hz, take_B.2, putsF]
    rfl
  have ht : turnD x (mountF x).1 (mountF x).2.1 [⟨[98], 0, []⟩] = dirB1 := by
    unfold turnD genN
    rw [hm]
    show (⟨genTo x (8 - 8) 2 8 + 1, _⟩ : Dir) = _
    rw [show 8 - 8 = 0 from rfl, gen_B hr 8 (Nat.le_refl _)]
    rfl
  rw [turnF_0 hm2 hw (by rw [hk, hf]; show ¬ 32 < 1; decide) hp (by rw [ht]; exact dirB1_w), ht, hm]
  exact ⟨_, rfl⟩
theorem next_B {x : Disk} (hc : x.count = 100) (hw : x.waits = []) (hm : mountF x = (dirA1, 8, 0)) (hr : ∀ i, i < 8 → disk.readF x ((0 + i : Nat) : Int) = (b1.drop (i * 128)).take 128) : ∃ y, turnedF x chsB = (y, 0) ∧ mountF y = (dirB1, 0, 0) := by
  obtain ⟨X, h2⟩ := turn_B hc hm hr
  have h0 : (turnF x chsB).2 = 0 := by rw [h2]
  obtain ⟨N, b, ht⟩ := turned_of h0
  obtain ⟨y, k1, k2, k3, k4, k5, k6⟩ := ht.done (by rw [hw, hc]; show ((0 : Nat) : Int) + 100 + 8 ≤ 4096; omega)
  have hd := dir_of ht bB_w (X := X) (by rw [h2, hm]; rfl)
  rw [hd, hm] at k5
  exact ⟨y, by unfold turnedF; rw [if_neg (fun k => k h0), k1], k5⟩
theorem turn_wrong {l : List Change} {e : Int} (h : wrongF ⟨1, []⟩ l = e) (he : ¬ e = 0) : (turnF F100 l).2 = e := by
  rw [turnF_e (by rw [f100_mount]) (by rw [f100_mount, h]; exact he), f100_mount]
  exact h
theorem err_x : (turnF F100 [⟨[120], [], true⟩]).2 = 6 := turn_wrong (by decide) (by decide)
theorem err_A : (turnF F100 [⟨[65], [], false⟩]).2 = 5 := turn_wrong (by decide) (by decide)
theorem err_aa : (turnF F100 [⟨[97], [], false⟩, ⟨[97], [], false⟩]).2 = 8 := turn_wrong (by decide) (by decide)
theorem take_21 : takeE 80 100 [] 21 = 30 := by decide
theorem err_30 {v : Bs} (hv : v.length = 2561) : (turnF F100 [chA v]).2 = 30 := by
  have hm : (mountF F100).2.2 = 0 := by rw [f100_mount]
  have hw : wrongF (mountF F100).1 [chA v] = 0 := by rw [f100_mount]; exact putA_wrong
  have hk : keepN (mountF F100).1 [chA v] = [] := by rw [f100_mount]; rfl
  have hf : freshN [chA v] = [chA v] := rfl
  have ha : allP (mountF F100).1.fs = [] := by rw [f100_mount]; rfl
  have hn : needF ((chA v).value.length : Int) = 21 := by show needF (v.length : Int) = 21; rw [hv]; decide
  have hp : (putsF F100.count (freshN [chA v]) (keepN (mountF F100).1 [chA v]) [] (allP (mountF F100).1.fs)).2.2 = 30 := by
    rw [hk, hf, ha]
    show (putsF 100 _ _ _ _).2.2 = _
    rw [putsF, hn, if_neg (by decide), if_pos (by rw [take_21]; decide), take_21]
  rw [turnF_p hm hw (by rw [hk, hf]; show ¬ 32 < 1; decide) hp (by decide)]
end files
end Go.Proofs.YtpfehnopghffjaaGreatDoor
