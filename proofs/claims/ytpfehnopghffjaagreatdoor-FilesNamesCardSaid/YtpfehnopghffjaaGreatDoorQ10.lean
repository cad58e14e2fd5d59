import Derived.Test.YtpfehnopghffjaaGreatDoorQ09
import Derived.Test.YtpfehnopghffjaaGreatDoorQ05
import Derived.Shelf.GgSortFunc.InsertionK
import Derived.Shelf.SlSortCmp.WholeK
import Derived.Shelf.SlSortCmp.NoneTotal
import Derived.Shelf.SlicesG.Cmp
import Derived.Test.YtpfehnopghffjaaGreatDoorProg
set_option linter.unusedVariables false
set_option linter.unusedSimpArgs false
set_option maxRecDepth 20000
/-
  The statements of chapter 02: what they go through; disks written over; sectors of one byte.
-/
namespace Go.Proofs.YtpfehnopghffjaaGreatDoor
open Go disk
namespace disk
def largeP (d : Disk) : Prop := (40000 < d.data.length ∧ 0 < d.count ∧ d.count ≤ 4096) ∨ 600000 < d.data.length ∨ (300 < d.waits.length ∧ d.waits.length < 4090) ∨ 4200 < d.waits.length
instance (d : Disk) : Decidable (largeP d) := by unfold largeP; infer_instance
def largeB (d : Disk) : Bool := decide (largeP d)
theorem large_not {d : Disk} (h : largeB d = false) : d.data.length ≤ 600000 ∧ d.waits.length ≤ 4200 := by
  have h := of_decide_eq_false h
  unfold largeP at h
  omega
end disk
theorem Blk.inj {w : World} {b : Nat} {E E' : TypeId} {cs cs' : List Value} (h : Blk w b E cs) (h' : Blk w b E' cs') : cs = cs' := by
  obtain ⟨f1, h1, _⟩ := h.heap
  obtain ⟨f2, h2, _⟩ := h'.heap
  rw [h1] at h2
  simp only [Option.some.injEq, Obj.cells.injEq] at h2
  exact List.toArray_inj h2.1
theorem flat_at {n : Nat} {us : List Value} {j t : Nat} {u : Value} (hs : ∀ x ∈ us, x.cells.size = n) (hj : us[j]? = some u) (ht : t < n) : (flat us)[j * n + t]? = u.cells.toList[t]? := by
  have hlt : j < us.length := (List.getElem?_eq_some_iff.1 hj).1
  have hu : us[j] = u := by rw [List.getElem?_eq_getElem hlt] at hj; simpa using hj
  have h1 : (flat us).drop (j * n) = u.cells.toList ++ flat (us.drop (j + 1)) := by
    rw [← flat_drop j hs, List.drop_eq_getElem_cons hlt, flat_cons, hu]
  have h2 : u.cells.toList.length = n := by rw [Array.length_toList]; exact hs u (hu ▸ List.getElem_mem hlt)
  rw [← List.getElem?_drop, h1, List.getElem?_append_left (by omega)]
/-- n bytes that may be written, nil or in a block that Q allows -/
def WrB (W : World) (Q : Nat → Prop) (v : Value) (n : Nat) : Prop := (n = 0 ∧ v = .slice none 0 0) ∨ ∃ b c ds, v = .slice (some ⟨b, 0, none⟩) n c ∧ Q b ∧ Blk W b 5 ds ∧ n ≤ ds.length
section
variable {W W2 : World} {Q : Nat → Prop} {v u : Value} {n k b bw : Nat} {ds : List Value} {S : Nat → Prop} {xs : List disk.Put}
theorem WrB.put (h : WrB W Q v n) (hB : Blk W b 5 ds) (P : Go.Proofs.YtpfehnopghffjaaGreatDoor.Put W W2 b 5 (ds.set k u)) : WrB W2 Q v n := by
  rcases h with h | ⟨b1, c, ds1, rfl, hq, hB1, hn⟩
  · exact .inl h
  · by_cases e : b1 = b
    · subst e
      have := hB1.inj hB
      subst this
      exact .inr ⟨b1, c, _, rfl, hq, P.blk, by simpa using hn⟩
    · exact .inr ⟨b1, c, ds1, rfl, hq, hB1.ext P.ext e, hn⟩
theorem WrB.ext (h : WrB W Q v n) (hx : Ext S W W2) (hs : ∀ k, Q k → ¬ S k) : WrB W2 Q v n := by
  rcases h with h | ⟨b1, c, ds1, rfl, hq, hB1, hn⟩
  · exact .inl h
  · exact .inr ⟨b1, c, ds1, rfl, hq, hB1.ext hx (hs b1 hq), hn⟩
theorem WrB.val (h : WrB W Q v n) : ∃ a c, v = .slice a n c := by
  rcases h with ⟨rfl, rfl⟩ | ⟨b1, c, ds1, rfl, _⟩
  · exact ⟨none, 0, rfl⟩
  · exact ⟨_, c, rfl⟩
theorem WrB.blk {a : Option Addr} {c : Nat} (h : WrB W Q (.slice a n c) n) (hk : k < n) : ∃ b ds, a = some ⟨b, 0, none⟩ ∧ Q b ∧ Blk W b 5 ds ∧ k < ds.length := by
  rcases h with ⟨rfl, _⟩ | ⟨b1, c, ds1, e, hq, hB1, hn⟩
  · omega
  · cases e
    exact ⟨b1, ds1, rfl, hq, hB1, by omega⟩
theorem WrB.of {P : Nat → Prop} {l : Bs} (h : Own tByte P 5 W v l b) (hb : b < W.heap.size → Q b) : WrB W Q v l.length := by
  rcases h.pick 0 with ⟨h1, h2⟩ | h1
  · by_cases hne : l = []
    · subst hne
      obtain ⟨hl, ⟨_, rfl⟩ | ⟨cap, us, sp, rfl, hc, he, hB, hn⟩⟩ := h1
      · exact .inl ⟨rfl, rfl⟩
      · exact .inr ⟨b, cap, _, rfl, hb h2, hB, Nat.zero_le _⟩
    · obtain ⟨cap, sp, rfl, hc, hB, hn⟩ := h1.blk hne
      exact .inr ⟨b, cap, _, rfl, hb h2, hB, by simp⟩
  · obtain ⟨hl, ⟨rfl, rfl⟩ | ⟨cap, us, sp, rfl, hc, he, hB, hn⟩⟩ := h
    · exact .inl ⟨rfl, rfl⟩
    · refine .inr ⟨b, cap, _, rfl, hb hB.lt, hB, ?_⟩
      have := hc
      rw [hn]
      show l.length ≤ cap * 1
      omega
theorem WrB.mono {Q' : Nat → Prop} (h : WrB W Q v n) (hq : ∀ k, Q k → Q' k) : WrB W Q' v n := by
  rcases h with h | ⟨b1, c, ds1, rfl, h1, hB1, hn⟩
  · exact .inl h
  · exact .inr ⟨b1, c, ds1, rfl, hq _ h1, hB1, hn⟩
/-- writes whose bytes may be written -/
def WrD (W : World) (bw : Nat) (Q : Nat → Prop) (xs : List disk.Put) : Prop := xs = [] ∨ ∃ cs, Blk W bw 76 cs ∧ ∀ j (h : j < xs.length), j * 2 + 1 < cs.length ∧ ∃ v, cs[j * 2 + 1]? = some v ∧ WrB W Q v xs[j].data.length
theorem WrD.data (h : WrD W bw Q xs) {i : Nat} (hi : i < xs.length) : ∃ a c, W.cell? ⟨bw, i * 2 + 1, none⟩ = some (.slice a xs[i].data.length c) ∧ WrB W Q (.slice a xs[i].data.length c) xs[i].data.length := by
  rcases h with rfl | ⟨cs, hB, h⟩
  · exact absurd hi (Nat.not_lt_zero _)
  · obtain ⟨h1, v, h2, h3⟩ := h i hi
    obtain ⟨a, c, rfl⟩ := h3.val
    exact ⟨a, c, by rw [hB.cell]; exact h2, h3⟩
theorem WrD.putD (h : WrD W bw Q xs) (hB : Blk W b 5 ds) (P : Go.Proofs.YtpfehnopghffjaaGreatDoor.Put W W2 b 5 (ds.set k u)) (hne : bw ≠ b) : WrD W2 bw Q xs := by
  rcases h with h | ⟨cs, hC, h⟩
  · exact .inl h
  · refine .inr ⟨cs, hC.ext P.ext hne, fun j hj => ?_⟩
    obtain ⟨h1, v, h2, h3⟩ := h j hj
    exact ⟨h1, v, h2, h3.put hB P⟩
theorem WrD.putW (h : WrD W bw Q xs) {i : Nat} (hi : i < xs.length) (hq : ∀ k, Q k → k ≠ bw) : ∃ cs, Blk W bw 76 cs ∧ i * 2 < cs.length ∧ ∀ W2 u, Go.Proofs.YtpfehnopghffjaaGreatDoor.Put W W2 bw 76 (cs.set (i * 2) u) → WrD W2 bw Q xs := by
  rcases h with rfl | ⟨cs, hC, h⟩
  · exact absurd hi (Nat.not_lt_zero _)
  · refine ⟨cs, hC, by have := (h i hi).1; omega, fun W2 u P => .inr ⟨_, P.blk, fun j hj => ?_⟩⟩
    obtain ⟨h1, v, h2, h3⟩ := h j hj
    exact ⟨by simpa using h1, v, by rw [List.getElem?_set_ne (by omega)]; exact h2, h3.ext P.ext hq⟩
theorem WrD.of (h : Own tPutO Q 76 W v xs b) : WrD W b Q xs := by
  obtain ⟨hl, ⟨rfl, rfl⟩ | ⟨cap, us, sp, rfl, hc, he, hB, hn⟩⟩ := h
  · exact .inl rfl
  · refine .inr ⟨_, hB, fun j hj => ?_⟩
    have hsz := he.mem (n := 2) (fun u x h => tPutO.sz h)
    obtain ⟨u, hu, hr⟩ := he.get (List.getElem?_eq_getElem hj)
    obtain ⟨ud, rfl, hud, _⟩ := tPutO.val hr
    have hlt : j < us.length := (List.getElem?_eq_some_iff.1 hu).1
    have hfl := flat_length hsz
    refine ⟨by rw [List.length_append, hfl]; omega, ud, ?_, ?_⟩
    · rw [List.getElem?_append_left (by rw [hfl]; omega), flat_at hsz hu (by omega)]
      rfl
    · rcases hud with ⟨h1, rfl⟩ | ⟨b1, h1, h2, h3⟩
      · exact .inl ⟨by rw [h1]; rfl, rfl⟩
      · exact WrB.of h3 (fun _ => h1)
end
end Go.Proofs.YtpfehnopghffjaaGreatDoor
/-
  DiskReads, DiskDoes: walked.
-/
namespace Go.Proofs.YtpfehnopghffjaaGreatDoor
open Go disk
theorem own_below {w : World} {v : Value} {l : Bs} {b : Nat} (h : Own tByte (fun _ => False) 5 w v l b) : tBytes.rep (fun k => k < w.heap.size) w v l := by
  have h' := h
  obtain ⟨hl, ⟨rfl, rfl⟩ | ⟨cap, us, sp, rfl, hc, he, hB, hn⟩⟩ := h'
  · exact Sl.nil
  · exact h.rep hB.lt (fun _ h _ => h.elim)
theorem own_all {w : World} {v : Value} {l : Bs} {b : Nat} (h : Own tByte (fun _ => False) 5 w v l b) : tBytes.rep All w v l := h.rep trivial (fun _ h _ => h.elim)
theorem refSameT_fn {w : World} {v u : Value} {a : Disk} (ha : tDisk.rep All w v a) (hb : tDisk.rep All w u a) : Fn Tryz.prog 26 [v, u] w (fun r w2 => r = .bool true ∧ Ext (fun _ => False) w w2) :=
  (refSame_fn ha hb).mono fun r w2 ⟨h1, h2⟩ => ⟨h1.trans (by rw [decide_eq_true rfl]), h2⟩
theorem tDisk.shape {P : Nat → Prop} {w : World} {v : Value} {d : Disk} (h : tDisk.rep P w v d) : ∃ a1 c1 a2 c2, v = .agg #[i64 d.count, .slice a1 d.data.length c1, .slice a2 d.waits.length c2] := by
  obtain ⟨u, u', rfl, hd, hw, _⟩ := tDisk.val h
  obtain ⟨a, cap, rfl, _⟩ := Sl.val hd
  obtain ⟨aw, capw, rfl, _⟩ := Sl.val hw
  exact ⟨_, _, _, _, rfl⟩
end Go.Proofs.YtpfehnopghffjaaGreatDoor
/-
  The statements of chapter 02 without the document's answer: what becomes of a sector; a write, read, not sure.
-/
namespace Go.Proofs.YtpfehnopghffjaaGreatDoor
open Go disk
namespace disk
def secOf (l : Bs) (n : Nat) : Bs := (l.drop (n * 128)).take 128
/-- the sector n, the first writes that are kept made sure -/
def lastK (d : Disk) (keep : Nat → Bool) (n : Nat) : Nat → Bs
  | 0 => secOf d.data n
  | k + 1 => match d.waits[k]? with | some p => if keep k = true ∧ p.sector = (n : Int) then p.data else lastK d keep n k | none => lastK d keep n k
theorem secOf_patch {l x : Bs} {m n : Nat} (hx : x.length = 128) (hm : m * 128 + 128 ≤ l.length) (hn : n * 128 + 128 ≤ l.length) : secOf (patch l (m * 128) x) n = if m = n then x else secOf l n := by
  unfold secOf patch
  rw [hx]
  have h1 : (l.take (m * 128)).length = m * 128 := by simp; omega
  split
  · rename_i h
    subst h
    rw [List.append_assoc, List.drop_append, h1, Nat.sub_self, List.drop_zero, List.drop_of_length_le (by omega), List.nil_append, List.take_append_of_le_length (by omega), List.take_of_length_le (by omega)]
  · rename_i h
    rcases Nat.lt_or_gt_of_ne h with h | h
    · have h2 : (l.take (m * 128) ++ x).length = m * 128 + 128 := by rw [List.length_append, h1, hx]
      rw [List.drop_append, h2, List.drop_of_length_le (by omega), List.nil_append, List.drop_drop]
      congr 2
      omega
    · rw [List.append_assoc, List.drop_append, h1, List.take_append_of_le_length (by simp; omega), List.drop_take, List.take_take]
      congr 1
      omega
theorem settled_sec {d : Disk} (hc : checkF d = 0) (keep : Nat → Bool) {n : Nat} (hn : (n : Int) < d.count) : ∀ k, secOf (settled d keep k) n = lastK d keep n k
  | 0 => rfl
  | k + 1 => by
    obtain ⟨k1, k2, k3, k4, k5⟩ := check_ok hc
    have ih := settled_sec hc keep hn k
    rw [settled, lastK]
    cases hp : d.waits[k]? with
    | none => exact ih
    | some p =>
      show secOf (if keep k = true then patch (settled d keep k) (p.sector.toNat * 128) p.data else settled d keep k) n = if keep k = true ∧ p.sector = (n : Int) then p.data else lastK d keep n k
      have h5 := k5 p (List.mem_of_getElem? hp)
      have hl := settled_length hc keep k
      by_cases hk : keep k = true
      · rw [if_pos hk, secOf_patch h5.2.2 (by rw [hl]; omega) (by rw [hl]; omega), ih]
        by_cases hs : p.sector = (n : Int)
        · rw [if_pos (by omega), if_pos ⟨hk, hs⟩]
        · rw [if_neg (by omega), if_neg (fun h => hs h.2)]
      · rw [if_neg hk, if_neg (fun h => hk h.1)]
        exact ih
theorem lastK_or (d : Disk) (keep : Nat → Bool) (n : Nat) : ∀ k, lastK d keep n k = secOf d.data n ∨ ∃ (i : Nat) (p : disk.Put), d.waits[i]? = some p ∧ p.sector = (n : Int) ∧ p.data = lastK d keep n k
  | 0 => .inl rfl
  | k + 1 => by
    rw [lastK]
    split
    · rename_i p hp
      split
      · rename_i h
        exact .inr ⟨k, p, hp, h.2, rfl⟩
      · exact lastK_or d keep n k
    · exact lastK_or d keep n k
theorem lastOf_snoc (ws : List disk.Put) (p : disk.Put) (n : Int) : lastOf (ws ++ [p]) n = if p.sector = n then some p.data else lastOf ws n := by
  unfold lastOf
  rw [List.reverse_append, List.reverse_singleton, List.singleton_append, List.find?_cons]
  split
  · rename_i h
    rw [if_pos (by simpa using h)]
    rfl
  · rename_i h
    rw [if_neg (by simpa using h)]
theorem lastK_all (d : Disk) (n : Nat) : ∀ k, k ≤ d.waits.length → lastK d (fun _ => true) n k = match lastOf (d.waits.take k) n with | some b => b | none => secOf d.data n
  | 0, _ => rfl
  | k + 1, h => by
    have hk : k < d.waits.length := by omega
    rw [lastK, List.getElem?_eq_getElem hk, List.take_succ_eq_append_getElem hk, lastOf_snoc]
    simp only [true_and]
    split
    · rfl
    · exact lastK_all d n k (by omega)
theorem flush_sec {d : Disk} (hc : checkF d = 0) {n : Nat} (hn : (n : Int) < d.count) : secOf (settled d (fun _ => true) d.waits.length) n = readF d n := by
  rw [settled_sec hc _ hn, lastK_all d n _ (Nat.le_refl _), List.take_length]
  rfl
theorem asked_ok {d : Disk} {n : Int} (h : askedF d n = 0) : checkF d = 0 ∧ 0 ≤ n ∧ n < d.count := by
  unfold askedF at h
  split at h
  · omega
  · rename_i h1
    split at h
    · omega
    · exact ⟨Decidable.byContradiction h1, by omega, by omega⟩
theorem asked_same {d e : Disk} (h1 : checkF d = 0) (h2 : checkF e = 0) (h3 : e.count = d.count) (n : Int) : askedF e n = askedF d n := by
  unfold askedF
  rw [h1, h2, h3]
theorem asked_of {d : Disk} {n : Int} (h : checkF d = 0) (h1 : 0 ≤ n) (h2 : n < d.count) : askedF d n = 0 := by
  unfold askedF
  rw [if_neg (by simp [h]), if_neg (by omega)]
/-- a write that went well -/
theorem write_ok {d : Disk} {n : Int} {b : Bs} (h : (doF d [⟨false, n, b⟩]).2 = 0) : checkF d = 0 ∧ 0 ≤ n ∧ n < d.count ∧ b.length = 128 ∧ d.waits.length < 4096 ∧ doF d [⟨false, n, b⟩] = ({ d with waits := d.waits ++ [⟨n, b⟩] }, 0) := by
  unfold doF at h ⊢
  split at h
  · rename_i h1; exact absurd h h1
  · rename_i h1
    rw [if_neg h1]
    rw [doN] at h ⊢
    simp only [Bool.false_eq_true, if_false] at h ⊢
    split at h
    · cases h
    · rename_i h2
      rw [if_neg h2]
      split at h
      · cases h
      · rename_i h3
        rw [if_neg h3]
        split at h
        · cases h
        · rename_i h4
          rw [if_neg h4]
          exact ⟨Decidable.byContradiction h1, by omega, by omega, by omega, by omega, rfl⟩
theorem doN_bad (c : Int) : ∀ (l : List Act) (out : Disk), ¬ (doN c l out).2 = 0 → (doN c l out).1 = nodisk
  | [], out, h => absurd rfl h
  | a :: l, out, h => by
    rw [doN] at h ⊢
    split
    · rename_i h1; rw [if_pos h1] at h; exact doN_bad c l _ h
    · rename_i h1
      rw [if_neg h1] at h
      split
      · rfl
      · rename_i h2
        rw [if_neg h2] at h
        split
        · rfl
        · rename_i h3
          rw [if_neg h3] at h
          split
          · rfl
          · rename_i h4; rw [if_neg h4] at h; exact doN_bad c l _ h
theorem doF_bad {d : Disk} {l : List Act} (h : ¬ (doF d l).2 = 0) : (doF d l).1 = nodisk := by
  unfold doF at h ⊢
  split
  · rfl
  · rename_i h1; rw [if_neg h1] at h; exact doN_bad _ _ _ h
theorem readF_put_same {d : Disk} {n : Int} {b : Bs} : readF { d with waits := d.waits ++ [⟨n, b⟩] } n = b := by
  unfold readF
  rw [lastOf_snoc, if_pos rfl]
theorem readF_put_other {d : Disk} {n m : Int} {b : Bs} (h : ¬ m = n) : readF { d with waits := d.waits ++ [⟨n, b⟩] } m = readF d m := by
  unfold readF
  rw [lastOf_snoc, if_neg (fun e => h e.symm)]
theorem flush_ok {d : Disk} (h : checkF d = 0) : doF d [⟨true, 0, []⟩] = (settleD d (fun _ => true), 0) := by
  unfold doF
  rw [if_neg (by simp [h])]
  rfl
theorem readF_settle (d : Disk) (keep : Nat → Bool) (n : Int) : readF (settleD d keep) n = secOf (settled d keep d.waits.length) n.toNat := rfl
theorem flush_read {d : Disk} (hc : checkF d = 0) {n : Int} (h0 : 0 ≤ n) (hn : n < d.count) : secOf (settled d (fun _ => true) d.waits.length) n.toNat = readF d n := by
  have := flush_sec hc (n := n.toNat) (by omega)
  rw [this]
  congr 1
  omega
def D0 : Disk := ⟨2, List.replicate 256 0, []⟩
def D1 : Disk := ⟨2, List.replicate 256 0, [⟨1, List.replicate 128 1⟩]⟩
theorem new2 : newF 2 = (D0, 0) := by unfold newF; rw [if_neg (by omega)]; rfl
theorem write2 : doF D0 [⟨false, 1, List.replicate 128 1⟩] = (D1, 0) := by decide +kernel
theorem asked2 : askedF D1 1 = 0 := by decide +kernel
theorem read2 : readF D1 1 = List.replicate 128 1 := by decide +kernel
theorem sure2 : (D1.data.drop ((1 : Int).toNat * 128)).take 128 = List.replicate 128 0 := by decide +kernel
end disk
theorem New2_fn {w : World} : Fn Tryz.prog 38 [i64 2] w (fun r w2 => ∃ v, r = .tuple #[v, i64 0] ∧ tDisk.rep (fun k => k < w2.heap.size) w2 v D0 ∧ Ext (fun _ => False) w w2) :=
  (New_fn (n := 2)).mono fun r w2 ⟨v, h1, h2, h3⟩ => ⟨v, by rw [h1, new2], by rw [new2] at h2; exact tDisk.mono h2 (fun k _ h => h), h3⟩
theorem Read2_fn {w : World} {v : Value} (h : tDisk.rep All w v D1) : Fn Tryz.prog 69 [v, i64 1] w (fun r w2 => ∃ s b, r = .tuple #[s, i64 0] ∧ Own tByte (fun _ => False) 5 w2 s (List.replicate 128 1) b ∧ Ext (fun _ => False) w w2) :=
  (DiskRead_fn (n := 1) h).mono fun r w2 ⟨s, b, h1, h2, _, h3⟩ => ⟨s, b, by rw [h1, asked2], by rw [if_pos asked2, read2] at h2; exact h2, h3⟩
theorem Sure2_fn {w : World} {v : Value} (h : tDisk.rep All w v D1) : Fn Tryz.prog 122 [v, i64 1] w (fun r w2 => ∃ s b, r = .tuple #[s, i64 0] ∧ Own tByte (fun _ => False) 5 w2 s (List.replicate 128 0) b ∧ Ext (fun _ => False) w w2) :=
  (Sure_fn (n := 1) h).mono fun r w2 ⟨s, b, h1, h2, _, h3⟩ => ⟨s, b, by rw [h1, asked2], by rw [if_pos asked2, sure2] at h2; exact h2, h3⟩
end Go.Proofs.YtpfehnopghffjaaGreatDoor
/-
  DiskLast, DiskKeeps: walked.
-/
namespace Go.Proofs.YtpfehnopghffjaaGreatDoor
open Go disk
theorem DoE_fn {w : World} {v vl : Value} {d : Disk} {l : List disk.Act} (h : tDisk.rep All w v d) (hl : (Sl tAct).rep All w vl l) : Fn Tryz.prog 36 [v, vl] w (fun r w2 => ∃ v' x e, doF d l = (x, e) ∧ r = .tuple #[v', i64 e] ∧ tDisk.rep (fun k => w.heap.size ≤ k ∧ k < w2.heap.size) w2 v' x ∧ Ext (fun _ => False) w w2) :=
  (Do_fn h hl).mono fun r w2 ⟨v, h1, h2, h3⟩ => ⟨v, _, _, rfl, h1, tDisk.mono h2.rep (fun k h1 h => ⟨h1, h⟩), h3⟩
theorem Crash0_fn {w : World} {v vk : Value} {d : Disk} {ks : List Bool} (h : tDisk.rep All w v d) (hk : (Sl tBool).rep All w vk ks) (hc : checkF d = 0) : Fn Tryz.prog 42 [v, vk] w (fun r w2 => ∃ v', r = .tuple #[v', i64 0] ∧ tDisk.rep All w2 v' (settleD d (fun i => ks.getD i false)) ∧ Ext (fun _ => False) w w2) :=
  (Crash_fn h hk).mono fun r w2 ⟨v, h1, h2, h3⟩ => by
    have e : crashF d ks = (settleD d (fun i => ks.getD i false), 0) := by unfold crashF; rw [if_neg (by simp [hc])]
    rw [e] at h1 h2
    exact ⟨v, h1, allOf h2.rep, h3⟩
theorem Read0_fn {w : World} {v : Value} {d : Disk} {n : Int} (h : tDisk.rep All w v d) (hA : askedF d n = 0) : Fn Tryz.prog 69 [v, i64 n] w (fun r w2 => ∃ s, r = .tuple #[s, i64 0] ∧ tBytes.rep All w2 s (readF d n) ∧ Ext (fun _ => False) w w2) :=
  (DiskRead_fn (n := n) h).mono fun r w2 ⟨s, b, h1, h2, _, h3⟩ => ⟨s, by rw [h1, hA], by rw [if_pos hA] at h2; exact own_all h2, h3⟩
theorem ReadA_fn {w : World} {v : Value} {d : Disk} {n : Int} (h : tDisk.rep All w v d) : Fn Tryz.prog 69 [v, i64 n] w (fun r w2 => ∃ s, r = .tuple #[s, i64 (askedF d n)] ∧ tBytes.rep All w2 s (if askedF d n = 0 then readF d n else []) ∧ Ext (fun _ => False) w w2) :=
  (DiskRead_fn (n := n) h).mono fun r w2 ⟨s, b, h1, h2, _, h3⟩ => ⟨s, h1, own_all h2, h3⟩
theorem Sure0_fn {w : World} {v : Value} {d : Disk} {n : Int} (h : tDisk.rep All w v d) (hA : askedF d n = 0) : Fn Tryz.prog 122 [v, i64 n] w (fun r w2 => ∃ s, r = .tuple #[s, i64 0] ∧ tBytes.rep All w2 s (secOf d.data n.toNat) ∧ Ext (fun _ => False) w w2) :=
  (Sure_fn (n := n) h).mono fun r w2 ⟨s, b, h1, h2, _, h3⟩ => ⟨s, by rw [h1, hA], by rw [if_pos hA] at h2; exact own_all h2, h3⟩
end Go.Proofs.YtpfehnopghffjaaGreatDoor
/-
  DiskPieces, DiskAll: walked.
-/
namespace Go.Proofs.YtpfehnopghffjaaGreatDoor
open Go disk
namespace disk
theorem doN_bad' (c : Int) : ∀ (l m : List Act) (out : Disk), ¬ (doN c l out).2 = 0 → doN c (l ++ m) out = doN c l out
  | [], m, out, h => absurd rfl h
  | a :: l, m, out, h => by
    rw [List.cons_append, doN, doN]
    rw [doN] at h
    split
    · rename_i h1; rw [if_pos h1] at h; exact doN_bad' c l m _ h
    · rename_i h1
      rw [if_neg h1] at h
      split
      · rfl
      · rename_i h2
        rw [if_neg h2] at h
        split
        · rfl
        · rename_i h3
          rw [if_neg h3] at h
          split
          · rfl
          · rename_i h4; rw [if_neg h4] at h; exact doN_bad' c l m _ h
theorem doN_ok (c : Int) : ∀ (l m : List Act) (out : Disk), checkF out = 0 → out.count = c → (doN c l out).2 = 0 → doN c (l ++ m) out = doN c m (doN c l out).1 ∧ checkF (doN c l out).1 = 0 ∧ (doN c l out).1.count = c
  | [], m, out, hc, hn, h => ⟨rfl, hc, hn⟩
  | a :: l, m, out, hc, hn, h => by
    rw [List.cons_append, doN, doN]
    rw [doN] at h
    split
    · rename_i h1; rw [if_pos h1] at h; exact doN_ok c l m _ (check_settle hc _) hn h
    · rename_i h1
      rw [if_neg h1] at h
      split
      · rename_i h2; rw [if_pos h2] at h; cases h
      · rename_i h2
        rw [if_neg h2] at h
        split
        · rename_i h3; rw [if_pos h3] at h; cases h
        · rename_i h3
          rw [if_neg h3] at h
          split
          · rename_i h4; rw [if_pos h4] at h; cases h
          · rename_i h4
            rw [if_neg h4] at h
            exact doN_ok c l m _ (check_put hc (by omega) ⟨by omega, by omega, by omega⟩) hn h
theorem doF_first_bad {d y : Disk} {l m : List Act} {f : Int} (h : doF d l = (y, f)) (hf : ¬ f = 0) : doF d (l ++ m) = (y, f) := by
  unfold doF at h ⊢
  split
  · rename_i h1; rw [if_pos h1] at h; exact h
  · rename_i h1
    rw [if_neg h1] at h
    rw [doN_bad' _ _ _ _ (by rw [h]; exact hf)]
    exact h
theorem doF_first_ok {d y : Disk} {l m : List Act} (h : doF d l = (y, 0)) : doF d (l ++ m) = doF y m := by
  unfold doF at h
  split at h
  · rename_i h1; exact absurd (Prod.mk.inj h).2 h1
  · rename_i h1
    have hc : checkF d = 0 := Decidable.byContradiction h1
    obtain ⟨h2, h3, h4⟩ := doN_ok d.count l m d hc rfl (by rw [h])
    rw [h] at h2 h3 h4
    unfold doF
    rw [if_neg h1, if_neg (by simp [h3]), h2, h4]
theorem settled_congr (d : Disk) (k1 k2 : Nat → Bool) : ∀ k, k ≤ d.waits.length → (∀ i, i < k → k1 i = k2 i) → settled d k1 k = settled d k2 k
  | 0, _, _ => rfl
  | k + 1, hk, h => by
    rw [settled_step (by omega), settled_step (by omega), settled_congr d k1 k2 k (by omega) (fun i hi => h i (by omega)), h k (by omega)]
theorem settled_no (d : Disk) : ∀ k, settled d (fun i => ([] : List Bool).getD i false) k = d.data
  | 0 => rfl
  | k + 1 => by
    rw [settled, settled_no d k]
    split
    · rfl
    · rfl
theorem settle_all (d : Disk) : settleD d (fun i => (List.replicate d.waits.length true).getD i false) = settleD d (fun _ => true) := by
  unfold settleD
  rw [settled_congr d _ (fun _ => true) _ (Nat.le_refl _) (fun i hi => by rw [List.getD_eq_getElem?_getD, List.getElem?_replicate, if_pos hi]; rfl)]
theorem same_none (d : Disk) : ((decide (d = (⟨d.count, d.data, []⟩ : Disk))) == (decide ((d.waits.length : Int) = 0))) = true := by
  obtain ⟨c, l, ws⟩ := d
  cases ws with
  | nil => simp
  | cons p ws => 
    rw [decide_eq_false (by simp), decide_eq_false (by simp; omega)]
    rfl
theorem each_true {P : Nat → Prop} {w : World} : ∀ n, Each (tBool.rep P w) (List.replicate n (Value.bool true)) (List.replicate n true)
  | 0 => .nil
  | n + 1 => .cons rfl (each_true n)
theorem tDisk_data {P : Nat → Prop} {w : World} {a1 a2 : Option Addr} {c1 c2 : Nat} {d : Disk} (h : tDisk.rep P w (.agg #[i64 d.count, .slice a1 d.data.length c1, .slice a2 d.waits.length c2]) d) : tBytes.rep P w (.slice a1 d.data.length c1) d.data := by
  obtain ⟨u, u', e, hd, _⟩ := tDisk.val h
  simp at e
  rw [e.1]
  exact hd
theorem settle_no (d : Disk) : settleD d (fun i => ([] : List Bool).getD i false) = ⟨d.count, d.data, []⟩ := by
  unfold settleD
  rw [settled_no]
end disk
end Go.Proofs.YtpfehnopghffjaaGreatDoor
/-
  Slices of a call's own that grow, nil or in a block that was not there at the start. No program in sight.
-/
namespace Go.Proofs.YtpfehnopghffjaaGreatDoor
open Go
theorem OwnO.ofOwn {α : Type} {t : Ty α} {Q B : Nat → Prop} {E : TypeId} {w : World} {v : Value} {xs : List α} {b : Nat} (h : Own t Q E w v xs b) (hb : b < w.heap.size → B b) : OwnO t Q E w v xs B := by
  have h' := h
  obtain ⟨hl, ⟨rfl, rfl⟩ | ⟨cap, us, sp, rfl, hc, he, hB, hn⟩⟩ := h'
  · exact .inl ⟨rfl, rfl⟩
  · exact .inr ⟨b, hb hB.lt, hB.lt, h⟩
theorem OwnO.lim {α : Type} {t : Ty α} {Q B : Nat → Prop} {E : TypeId} {w : World} {v : Value} {xs : List α} (h : OwnO t Q E w v xs B) : xs.length < Lim := by
  rcases h with ⟨rfl, _⟩ | ⟨b, _, _, h⟩
  · show 0 < Lim; decide
  · exact h.lim
section
variable {P : Program} {e : Env} {w : World} {x y : Operand} {T T' E : TypeId} {v u : Value} {α : Type} {t : Ty α} {Q : Nat → Prop} {xs ys : List α} {B : Nat → Prop}
theorem DoV.appendLo {i : TypeInfo} {z : Value} {eb : Nat} (hx : look e x = some v) (hv : OwnO t Q E w v xs B) (hlo : ∀ k, w.heap.size ≤ k → B k) (hy : look e y = some u) (hu : (∃ a cap, u = .slice a 0 cap ∧ ys = []) ∨ Holds t Q w u ys)
    (hT : P.underlying T = some (.slice E)) (hT' : P.underlying T' = some (.slice E)) (hi : P.info? E = some i) (hz : i.zero = some z) (hs : i.size = t.size) (hzs : z.cells.size = t.size) (hby : i.bytes = eb) (hlim : (xs.length + ys.length) * eb ≤ 140737488355328) (hlen : xs.length + ys.length < Lim) (hq : ∀ k, Q k → k < w.heap.size → ¬ B k) :
    DoV P e (.call { callee := .builtin .append, args := #[x, y], argTypes := #[T, T'] }) w (fun r w2 => OwnO t Q E w2 r (xs ++ ys) B ∧ Ext B w w2) := by
  have key : ∀ b, B b → Own t Q E w v xs b → DoV P e (.call { callee := .builtin .append, args := #[x, y], argTypes := #[T, T'] }) w (fun r w2 => OwnO t Q E w2 r (xs ++ ys) B ∧ Ext B w w2) := by
    intro b hb hO w' hw ρ hρ o ho
    obtain ⟨r, w2, w3, h1, h2, b', h3, h4, h5⟩ := DoV.append (P := P) hx hO hy hu hT hT' hi hz hs hzs hby hlim hlen (fun k hk hlt he => hq k hk hlt (he ▸ hb)) w' hw ρ hρ o ho
    exact ⟨r, w2, w3, h1, h2, OwnO.ofOwn (h3.mono (fun k hk _ => hk.1)) (fun _ => h5.elim (fun e => by rw [e]; exact hb) (fun e => by rw [e]; exact hlo _ (Nat.le_refl _))), h4.mono (fun k _ hk => by rw [hk]; exact hb)⟩
  rcases hv with ⟨rfl, rfl⟩ | ⟨b, hb, _, hO⟩
  · exact key w.heap.size (hlo _ (Nat.le_refl _)) Own.nil
  · exact key b hb hO
theorem DoV.appendSLo {i : TypeInfo} {z : Value} {bx l : Bs} (hx : look e x = some v) (hv : OwnO tByte Q E w v bx B) (hlo : ∀ k, w.heap.size ≤ k → B k) (hy : look e y = some (str l))
    (hT : P.underlying T = some (.slice E)) (hT' : P.underlying T' = some .string) (hi : P.info? E = some i) (hz : i.zero = some z) (hs : i.size = 1) (hzs : z.cells.size = 1) (hby : i.bytes = 1) (hlen : bx.length + l.length < Lim) (hq : ∀ k, Q k → k < w.heap.size → ¬ B k) :
    DoV P e (.call { callee := .builtin .append, args := #[x, y], argTypes := #[T, T'] }) w (fun r w2 => OwnO tByte Q E w2 r (bx ++ l) B ∧ Ext B w w2) := by
  have key : ∀ b, B b → Own tByte Q E w v bx b → DoV P e (.call { callee := .builtin .append, args := #[x, y], argTypes := #[T, T'] }) w (fun r w2 => OwnO tByte Q E w2 r (bx ++ l) B ∧ Ext B w w2) := by
    intro b hb hO w' hw ρ hρ o ho
    obtain ⟨r, w2, w3, h1, h2, b', h3, h4, h5⟩ := DoV.appendS (P := P) hx hO hy hT hT' hi hz hs hzs hby hlen (fun k hk hlt he => hq k hk hlt (he ▸ hb)) w' hw ρ hρ o ho
    exact ⟨r, w2, w3, h1, h2, OwnO.ofOwn (h3.mono (fun k hk _ => hk.1)) (fun _ => h5.elim (fun e => by rw [e]; exact hb) (fun e => by rw [e]; exact hlo _ (Nat.le_refl _))), h4.mono (fun k _ hk => by rw [hk]; exact hb)⟩
  rcases hv with ⟨rfl, rfl⟩ | ⟨b, hb, _, hO⟩
  · exact key w.heap.size (hlo _ (Nat.le_refl _)) Own.nil
  · exact key b hb hO
end
/-- bytes that grow: nil or in a block of the call's own -/
abbrev Gr (w : World) (v : Value) (l : Bs) (lo : Nat) : Prop := OwnO tByte (fun _ => False) 5 w v l (fun k => lo ≤ k)
theorem Gr.rep {w : World} {v : Value} {l : Bs} {lo : Nat} (h : Gr w v l lo) : tBytes.rep All w v l := OwnO.rep h (fun _ _ _ => trivial) (fun _ h _ => h.elim)
theorem Gr.rep' {w : World} {v : Value} {l : Bs} {lo : Nat} (h : Gr w v l lo) : tBytes.rep (fun k => lo ≤ k ∧ k < w.heap.size) w v l := OwnO.rep h (fun _ h1 h2 => ⟨h1, h2⟩) (fun _ h _ => h.elim)
theorem Gr.low {w : World} {v : Value} {l : Bs} {lo lo' : Nat} (h : Gr w v l lo) (hl : lo' ≤ lo) : Gr w v l lo' := OwnO.mono h (fun _ h _ => h) (fun k h _ => Nat.le_trans hl h)
theorem Gr.ext0 {w w' : World} {v : Value} {l : Bs} {lo : Nat} (h : Gr w v l lo) (hx : Ext (fun _ => False) w w') : Gr w' v l lo := OwnO.ext0 h hx
theorem Gr.holds {w : World} {v : Value} {l : Bs} {P : Nat → Prop} (h : tBytes.rep P w v l) : (∃ a cap, v = .slice a 0 cap ∧ l = []) ∨ Holds tByte (fun _ => False) w v l := Sl.holds h (fun _ _ h => h)
theorem Sl.recap {α : Type} {t : Ty α} {P : Nat → Prop} {w : World} {a : Option Addr} {n cap m : Nat} {xs : List α} (h : (Sl t).rep P w (.slice a n cap) xs) (h1 : n ≤ m) (h2 : m ≤ cap) : (Sl t).rep P w (.slice a n m) xs := by
  obtain ⟨hl, a', cap', e, hc, h⟩ := h
  cases e
  refine ⟨hl, a, m, rfl, h1, ?_⟩
  rcases h with ⟨h, rfl⟩ | h
  · exact .inl ⟨h, by omega⟩
  · exact .inr h
theorem Ev.cut3 {P : Program} {e : Env} {w : World} {x lo hi mx : Operand} {T E : TypeId} {a : Option Addr} {n cap s : Nat} {k k' k2 : IntKind} {l h m : Int} (hx : look e x = some (.slice a n cap)) (hl : look e lo = some (.int k l)) (hh : look e hi = some (.int k' h)) (hm : look e mx = some (.int k2 m)) (hT : P.underlying T = some (.slice E)) (hs : sizeIs P E s)
    (hb : 0 ≤ l ∧ l ≤ h ∧ h ≤ m ∧ m ≤ cap) : Ev P e (.slice T x (some lo) (some hi) (some mx)) w (cutV s a m.toNat l.toNat h.toNat) :=
  fun w' hw ρ hρ op ho => by
    have h1 : 0 ≤ h := by omega
    have h2 : ((h.toNat : Nat) : Int) = h := Int.toNat_of_nonneg h1
    have h3 : 0 ≤ m := by omega
    have h4 : ((m.toNat : Nat) : Int) = m := Int.toNat_of_nonneg h3
    simp [execOp, ho, hρ _ _ hx, hρ _ _ hl, hρ _ _ hh, hρ _ _ hm, Instr.sliceAt, Instr.slice, run_underlying hT, Instr.sliceBounds, run_sliceBound, hb.1, hb.2.1, hb.2.2.1, hb.2.2.2, h1, h2, h3, h4, hs.run, cutV]
/-- a call of a function without a body: its value -/
theorem Ev.callX {P : Program} {e : Env} {w : World} {c : Operand} {f : FuncId} {xs : List Operand} {ats : Array TypeId} {vs : List Value} {v : Value} (hf : look e c = some (.func (.func f) #[] #[])) (hx : xs.mapM (look e) = some vs) (hr : ∀ w, (callFunc f vs.toArray).run P w = .ok (.value v) w) : Ev P e (.call { callee := .value c, args := xs.toArray, argTypes := ats }) w v :=
  fun w' _ ρ hρ o ho => by
    have h1 := run_call_value (P := P) (ρ := ρ) (first := []) (captured := []) ho (hρ _ _ hf) w'
    rw [h1, look_args hρ xs vs hx, List.nil_append, List.append_nil]
    exact hr w'
theorem Ev.ltS {P : Program} {e : Env} {w : World} {x y : Operand} {T T' : TypeId} {a b : Bs} (hx : look e x = some (str a)) (hy : look e y = some (str b)) : Ev P e (.binOp .lss T x y T') w (.bool (Op.bytesLess a b)) :=
  fun w' _ ρ hρ o ho => by
    have h1 : (bs a).toList = a := bs_toList a
    have h2 : (bs b).toList = b := bs_toList b
    simp [execOp, ho, hρ _ _ hx, hρ _ _ hy, eqGuard, binOp, Op.stringOp, h1, h2]
theorem Ev.add8 {P : Program} {e : Env} {w : World} {x y : Operand} {T T' : TypeId} {a b : UInt8} (hx : look e x = some (u8 a)) (hy : look e y = some (u8 b)) : Ev P e (.binOp .add T x y T') w (u8 (a + b)) :=
  fun w' _ ρ hρ o ho => by
    have h : IntKind.u8.wrap ((a.toNat : Int) + (b.toNat : Int)) = ((a + b).toNat : Int) := by
      rw [IntKind.wrap_u8, UInt8.toNat_add]
      omega
    simp [execOp, ho, hρ _ _ hx, hρ _ _ hy, eqGuard, binOp, Op.intArith]
    exact h
end Go.Proofs.YtpfehnopghffjaaGreatDoor
/-
  Layer 3, data: pieces; which may be; what sorting comes to.
-/
namespace Go.Proofs.YtpfehnopghffjaaGreatDoor
open Go
namespace room
structure Piece where
  fr : Int
  ct : Int
deriving DecidableEq
def tPiece : Ty Piece := (tInt.pair tInt).map (fun p => (p.fr, p.ct))
theorem tPiece.val {P : Nat → Prop} {w : World} {v : Value} {p : Piece} (h : tPiece.rep P w v p) : v = .agg #[i64 p.fr, i64 p.ct] ∧ (-9223372036854775808 ≤ p.fr ∧ p.fr ≤ 9223372036854775807) ∧ -9223372036854775808 ≤ p.ct ∧ p.ct ≤ 9223372036854775807 := by
  obtain ⟨u, u', rfl, ⟨rfl, h1⟩, rfl, h2⟩ := h
  exact ⟨rfl, h1, h2⟩
theorem tPiece.mk {P : Nat → Prop} {w : World} {p : Piece} (h1 : -9223372036854775808 ≤ p.fr ∧ p.fr ≤ 9223372036854775807) (h2 : -9223372036854775808 ≤ p.ct ∧ p.ct ≤ 9223372036854775807) : tPiece.rep P w (.agg #[i64 p.fr, i64 p.ct]) p :=
  ⟨i64 p.fr, i64 p.ct, rfl, ⟨rfl, h1⟩, rfl, h2⟩
def okP (count : Int) (p : Piece) : Prop := 1 ≤ p.ct ∧ 0 ≤ p.fr ∧ p.fr < count ∧ p.ct ≤ count - p.fr
instance (count : Int) (p : Piece) : Decidable (okP count p) := by unfold okP; infer_instance
def apart (p q : Piece) : Prop := p.fr + p.ct ≤ q.fr ∨ q.fr + q.ct ≤ p.fr
instance (p q : Piece) : Decidable (apart p q) := by unfold apart; infer_instance
def mayP (count : Int) (l : List Piece) : Prop := (∀ p ∈ l, okP count p) ∧ l.Pairwise apart
instance (count : Int) (l : List Piece) : Decidable (mayP count l) := by unfold mayP; infer_instance
def checkR (count : Int) (l : List Piece) : Int :=
  if count < 0 ∨ 4096 < count then 2 else if 4096 < l.length then 4 else if mayP count l then 0 else 8
/-- pieces that rise and do not meet -/
def Rises (s : List Piece) : Prop := s.Pairwise (fun p q => p.fr + p.ct ≤ q.fr)
theorem apart_symm {p q : Piece} (h : apart p q) : apart q p := h.symm
theorem check_ok {count : Int} {l : List Piece} (h : checkR count l = 0) : 0 ≤ count ∧ count ≤ 4096 ∧ l.length ≤ 4096 ∧ mayP count l := by
  unfold checkR at h
  split at h
  · cases h
  · split at h
    · cases h
    · split at h
      · rename_i h1 h2 h3; exact ⟨by omega, by omega, by omega, h3⟩
      · cases h
/-- sorted by their beginnings, and each one's end is not behind the next one's beginning: they rise, and may be -/
theorem rises_of : ∀ {s : List Piece}, (∀ p ∈ s, 1 ≤ p.ct) → (∀ i (h : i + 1 < s.length), s[i].fr + s[i].ct ≤ s[i + 1].fr) → Rises s
  | [], _, _ => .nil
  | [p], _, _ => List.pairwise_singleton _ _
  | p :: q :: s, hc, h => by
    have ih := rises_of (s := q :: s) (fun x hx => hc x (List.mem_cons_of_mem _ hx)) (fun i hi => by have := h (i + 1) (by simpa using hi); simpa using this)
    have h0 := h 0 (by simp)
    simp at h0
    refine .cons (fun x hx => ?_) ih
    rcases List.mem_cons.1 hx with rfl | hx
    · exact h0
    · have := (List.pairwise_cons.1 ih).1 x hx
      have h2 := hc q (by simp)
      omega
theorem may_of_rises {count : Int} {l s : List Piece} (hp : s.Perm l) (hok : ∀ p ∈ l, okP count p) (h : Rises s) : mayP count l := by
  refine ⟨hok, ?_⟩
  exact (hp.pairwise_iff (R := apart) (fun h => apart_symm h)).1 (h.imp (fun hpq => .inl hpq))
/-- pieces that may be, sorted by their beginnings, rise -/
theorem rises_of_may {count : Int} {l s : List Piece} (hp : s.Perm l) (hm : mayP count l) (hs : s.Pairwise (fun p q => p.fr ≤ q.fr)) : Rises s := by
  have ha := (hp.pairwise_iff (R := apart) (fun h => apart_symm h)).2 hm.2
  have hok : ∀ p ∈ s, okP count p := fun p h => hm.1 p (hp.mem_iff.1 h)
  have := List.Pairwise.and_mem.1 (hs.and ha)
  refine this.imp (fun {p q} h => ?_)
  obtain ⟨h1, h2, h3, h4⟩ := h
  have := hok q h2
  unfold okP at this
  rcases h4 with h4 | h4
  · exact h4
  · omega
end room
end Go.Proofs.YtpfehnopghffjaaGreatDoor
/-
  What a sorted row comes to, in the terms of these walks.
-/
namespace Go.Proofs.YtpfehnopghffjaaGreatDoor
open Go Go.Sort
namespace room
instance : Inhabited Piece := ⟨⟨0, 0⟩⟩
def encP (p : Piece) : List Value := [i64 p.fr, i64 p.ct]
def flatP (xs : List Piece) : List Value := xs.flatMap encP
theorem flatP_length (xs : List Piece) : (flatP xs).length = xs.length * 2 := by
  induction xs with
  | nil => rfl
  | cons p xs ih => simp only [flatP, List.flatMap_cons, List.length_append, List.length_cons] at *; rw [ih]; simp [encP]; omega
theorem flatP_get (xs : List Piece) : ∀ (j : Nat), j < xs.length * 2 → (flatP xs)[j]? = some ((encP (xs.toArray[j / 2]!))[j % 2]!) := by
  induction xs with
  | nil => intro j hj; simp at hj
  | cons p xs ih =>
    intro j hj
    rcases Nat.lt_or_ge j 2 with h | h
    · match j, h with
      | 0, _ => rfl
      | 1, _ => rfl
    · obtain ⟨k, rfl⟩ : ∃ k, j = k + 2 := ⟨j - 2, by omega⟩
      have e1 : (flatP (p :: xs))[k + 2]? = (flatP xs)[k]? := by simp [flatP, encP]
      have e2 : (k + 2) / 2 = k / 2 + 1 := by omega
      have e3 : (k + 2) % 2 = k % 2 := by omega
      rw [e1, e2, e3, ih k (by simp at hj; omega)]
      congr 2
      simp
theorem flatK_get (xs : List Piece) (j : Nat) (hj : j < xs.length * 2) : (flatK encP 2 xs.toArray)[j]! = (encP (xs.toArray[j / 2]!))[j % 2]! := by
  unfold flatK
  have hs : j < xs.toArray.size * 2 := by simpa using hj
  simp [hs, hj]
theorem flatK_size (xs : List Piece) : (flatK encP 2 xs.toArray).size = xs.length * 2 := by simp [flatK]
/-- a row of the call's own is held -/
theorem holdsK_of {w : World} {b : Nat} {E : TypeId} {xs : List Piece} {sp : List Value} (hB : Blk w b E (flatP xs ++ sp)) : HoldsK encP 2 w b 0 xs.toArray := by
  intro j hj
  rw [flatK_size] at hj
  have hl := flatP_length xs
  refine ⟨?_, ?_⟩
  · rw [Nat.zero_add, hB.cell, List.getElem?_append_left (by omega), flatP_get xs j hj, flatK_get xs j hj]
    rfl
  · rw [Nat.zero_add]
    exact hB.thawed j (by rw [List.length_append]; omega)
theorem putCells_list (xs ys : List Piece) (sp : List Value) (hl : ys.length = xs.length) : Sort.putCells id 0 (flatK encP 2 ys.toArray) (flatP xs ++ sp).toArray = (flatP ys ++ sp).toArray := by
  have h1 := flatP_length xs
  have h2 := flatP_length ys
  apply Array.ext_getElem?
  intro k
  unfold Sort.putCells
  rw [Array.getElem?_mapIdx]
  simp only [List.getElem?_toArray]
  rcases Nat.lt_or_ge k (ys.length * 2) with h | h
  · rw [List.getElem?_append_left (by omega), List.getElem?_append_left (by omega), flatP_get ys k h, List.getElem?_eq_getElem (by omega)]
    simp only [Option.map_some]
    rw [if_pos ⟨Nat.zero_le _, by rw [flatK_size]; omega⟩]
    simp only [id, Nat.sub_zero]
    rw [flatK_get ys k h]
  · rw [List.getElem?_append_right (by omega), List.getElem?_append_right (by omega), h1, h2, hl]
    cases hsp : sp[k - xs.length * 2]? with
    | none => rfl
    | some x =>
      simp only [Option.map_some]
      rw [if_neg (by rw [flatK_size]; omega)]
/-- the world behind a sort -/
theorem sorted_world {w w' : World} {b n : Nat} {E : TypeId} {xs ys : List Piece} {sp : List Value} {os : Array Obj} (hs : Same w w') (hB : Blk w b E (flatP xs ++ sp)) (hl : ys.length = xs.length) :
    Blk (sortWorldK encP 2 w' b 0 n ys.toArray os) b E (flatP ys ++ sp) ∧ Ext (· = b) w (sortWorldK encP 2 w' b 0 n ys.toArray os) := by
  have hlt := hB.lt
  have hB' : Blk w' b E (flatP xs ++ sp) := hB.keep (by rw [hs.heap])
  obtain ⟨fr, hh, hfz⟩ := hB'.heap
  have hlen : (flatP ys ++ sp).length = (flatP xs ++ sp).length := by rw [List.length_append, List.length_append, flatP_length, flatP_length, hl]
  have hsz : w'.heap.size = w.heap.size := by rw [hs.heap]
  have hheap : ∀ k, k < w.heap.size → (sortWorldK encP 2 w' b 0 n ys.toArray os).heap[k]? = if k = b then some (.cells (flatP ys ++ sp).toArray E fr) else w'.heap[k]? := by
    intro k hk
    show ((w'.heap.modify b _) ++ os)[k]? = _
    rw [Array.getElem?_append_left (by simp; omega), Array.getElem?_modify]
    by_cases hkb : b = k
    · subst hkb
      rw [if_pos rfl, if_pos rfl, hh]
      simp only [Option.map_some, onCells]
      rw [putCells_list xs ys sp hl]
    · rw [if_neg hkb, if_neg (fun h => hkb h.symm)]
  refine ⟨?_, ?_⟩
  · have h0 := hheap b hlt
    rw [if_pos rfl] at h0
    obtain ⟨fr', h1 | h1⟩ := hB'
    · obtain ⟨h1, h2⟩ := h1
      rw [hh] at h1
      injection h1 with h1
      injection h1 with _ _ h1
      subst h1
      exact ⟨fr, .inl ⟨h0, by rw [hlen]; exact h2⟩⟩
    · obtain ⟨h1, h2⟩ := h1
      rw [hh] at h1
      injection h1 with h1
      injection h1 with _ _ h1
      subst h1
      exact ⟨fr, .inr ⟨h0, h2⟩⟩
  · refine ⟨hs.os, hs.tape, hs.output, ?_, fun k hk hn => ?_⟩
    · show w.heap.size ≤ ((w'.heap.modify b _) ++ os).size
      simp; omega
    · rw [hheap k hk, if_neg hn, hs.heap]
/-- elements, laid side by side -/
theorem flat_P {P : Nat → Prop} {w : World} {us : List Value} {xs : List Piece} (h : Each (tPiece.rep P w) us xs) : flat us = flatP xs := by
  induction h with
  | nil => rfl
  | cons h1 _ ih =>
    obtain ⟨rfl, _⟩ := tPiece.val h1
    rw [flat_cons, ih]
    rfl
theorem each_P {P : Nat → Prop} {w : World} : ∀ {xs : List Piece}, (∀ p ∈ xs, (-9223372036854775808 ≤ p.fr ∧ p.fr ≤ 9223372036854775807) ∧ -9223372036854775808 ≤ p.ct ∧ p.ct ≤ 9223372036854775807) → Each (tPiece.rep P w) (xs.map (fun p => .agg #[i64 p.fr, i64 p.ct])) xs
  | [], _ => .nil
  | p :: xs, h => .cons (tPiece.mk (h p (by simp)).1 (h p (by simp)).2) (each_P (fun q hq => h q (List.mem_cons_of_mem _ hq)))
theorem each_range {P : Nat → Prop} {w : World} {us : List Value} {xs : List Piece} (h : Each (tPiece.rep P w) us xs) : ∀ p ∈ xs, (-9223372036854775808 ≤ p.fr ∧ p.fr ≤ 9223372036854775807) ∧ -9223372036854775808 ≤ p.ct ∧ p.ct ≤ 9223372036854775807 := by
  induction h with
  | nil => intro p hp; cases hp
  | cons h1 _ ih =>
    intro p hp
    rcases List.mem_cons.1 hp with rfl | hp
    · exact (tPiece.val h1).2
    · exact ih p hp
end room
end Go.Proofs.YtpfehnopghffjaaGreatDoor
/-
  Package room: slices.SortFunc at pieces, by their beginnings.
-/
namespace Go.Proofs.YtpfehnopghffjaaGreatDoor
open Go Go.Proofs Go.Shelf Go.RowKit Go.Lib Go.Sort
def sortP_ren : Go.Shelf.Ren := ⟨fun | 6 => 151 | 14 => 173 | 15 => 134 | 20 => 183 | 21 => 184 | 22 => 185 | 23 => 186 | 24 => 187 | 25 => 188 | 26 => 189 | 27 => 190 | 28 => 163 | 29 => 164 | 46 => 196 | 47 => 176 | 48 => 177 | 49 => 197 | 50 => 198 | 57 => 200 | n => n, fun | 0 => 0 | 3 => 3 | 4 => 4 | 5 => 5 | 9 => 9 | 22 => 26 | 24 => 40 | 25 => 223 | 39 => 177 | 45 => 225 | 46 => 226 | 50 => 230 | 53 => 233 | 55 => 99 | 66 => 253 | 70 => 257 | 76 => 265 | 77 => 56 | n => n, fun n => n⟩
theorem sortP : SlLaysF0.n6 Tryz.prog sortP_ren where
  mixed := by kernel_rfl
  f6 := ⟨ "slices.SortFunc[[]docket/api.Piece,docket/api.Piece]", by decide, Tryz.func151.trans (congrArg some (by kernel_rfl))⟩
  f14 := ⟨ "slices.pdqsortCmpFunc[docket/api.Piece]", by decide, Tryz.func173.trans (congrArg some (by kernel_rfl))⟩
  f15 := Tryz.func134.trans (congrArg some (by kernel_rfl))
  f20 := ⟨ "slices.insertionSortCmpFunc[docket/api.Piece]", by decide, Tryz.func183.trans (congrArg some (by kernel_rfl))⟩
  f21 := ⟨ "slices.heapSortCmpFunc[docket/api.Piece]", by decide, Tryz.func184.trans (congrArg some (by kernel_rfl))⟩
  f22 := ⟨ "slices.breakPatternsCmpFunc[docket/api.Piece]", by decide, Tryz.func185.trans (congrArg some (by kernel_rfl))⟩
  f23 := ⟨ "slices.choosePivotCmpFunc[docket/api.Piece]", by decide, Tryz.func186.trans (congrArg some (by kernel_rfl))⟩
  f24 := ⟨ "slices.reverseRangeCmpFunc[docket/api.Piece]", by decide, Tryz.func187.trans (congrArg some (by kernel_rfl))⟩
  f25 := ⟨ "slices.partialInsertionSortCmpFunc[docket/api.Piece]", by decide, Tryz.func188.trans (congrArg some (by kernel_rfl))⟩
  f26 := ⟨ "slices.partitionEqualCmpFunc[docket/api.Piece]", by decide, Tryz.func189.trans (congrArg some (by kernel_rfl))⟩
  f27 := ⟨ "slices.partitionCmpFunc[docket/api.Piece]", by decide, Tryz.func190.trans (congrArg some (by kernel_rfl))⟩
  f28 := Tryz.func163.trans (congrArg some (by kernel_rfl))
  f29 := Tryz.func164.trans (congrArg some (by kernel_rfl))
  f46 := ⟨ "slices.siftDownCmpFunc[docket/api.Piece]", by decide, Tryz.func196.trans (congrArg some (by kernel_rfl))⟩
  f47 := Tryz.func176.trans (congrArg some (by kernel_rfl))
  f48 := Tryz.func177.trans (congrArg some (by kernel_rfl))
  f49 := ⟨ "slices.medianAdjacentCmpFunc[docket/api.Piece]", by decide, Tryz.func197.trans (congrArg some (by kernel_rfl))⟩
  f50 := ⟨ "slices.medianCmpFunc[docket/api.Piece]", by decide, Tryz.func198.trans (congrArg some (by kernel_rfl))⟩
  f57 := ⟨ "slices.order2CmpFunc[docket/api.Piece]", by decide, Tryz.func200.trans (congrArg some (by kernel_rfl))⟩
  t0 := Tryz.underlying0
  a0 := Tryz.isAgg0
  z0 := Tryz.sizeOf0
  v0 := Tryz.zeroValue0
  t3 := Tryz.underlying3
  a3 := Tryz.isAgg3
  z3 := Tryz.sizeOf3
  v3 := Tryz.zeroValue3
  t4 := Tryz.underlying4
  a4 := Tryz.isAgg4
  z4 := Tryz.sizeOf4
  v4 := Tryz.zeroValue4
  t5 := Tryz.underlying5
  a5 := Tryz.isAgg5
  z5 := Tryz.sizeOf5
  v5 := Tryz.zeroValue5
  t9 := Tryz.underlying9
  a9 := Tryz.isAgg9
  z9 := Tryz.sizeOf9
  v9 := Tryz.zeroValue9
  t22 := Tryz.underlying26
  a22 := Tryz.isAgg26
  z22 := Tryz.sizeOf26
  v22 := Tryz.zeroValue26
  t25 := Tryz.underlying223
  a25 := Tryz.isAgg223
  z25 := Tryz.sizeOf223
  v25 := Tryz.zeroValue223
  t39 := Tryz.underlying177
  a39 := Tryz.isAgg177
  z39 := Tryz.sizeOf177
  v39 := Tryz.zeroValue177
  t45 := Tryz.underlying225
  a45 := Tryz.isAgg225
  z45 := Tryz.sizeOf225
  v45 := Tryz.zeroValue225
  t46 := Tryz.underlying226
  a46 := Tryz.isAgg226
  z46 := Tryz.sizeOf226
  v46 := Tryz.zeroValue226
  t50 := Tryz.underlying230
  a50 := Tryz.isAgg230
  z50 := Tryz.sizeOf230
  v50 := Tryz.zeroValue230
  t53 := Tryz.underlying233
  a53 := Tryz.isAgg233
  z53 := Tryz.sizeOf233
  v53 := Tryz.zeroValue233
  t55 := Tryz.underlying99
  a55 := Tryz.isAgg99
  z55 := Tryz.sizeOf99
  v55 := Tryz.zeroValue99
  t66 := Tryz.underlying253
  a66 := Tryz.isAgg253
  z66 := Tryz.sizeOf253
  v66 := Tryz.zeroValue253
  t70 := Tryz.underlying257
  a70 := Tryz.isAgg257
  z70 := Tryz.sizeOf257
  v70 := Tryz.zeroValue257
  t76 := Tryz.underlying265
  a76 := Tryz.isAgg265
  z76 := Tryz.sizeOf265
  v76 := Tryz.zeroValue265
  t77 := Tryz.underlying56
  a77 := Tryz.isAgg56
  z77 := Tryz.sizeOf56
  v77 := Tryz.zeroValue56
def cmpP_ren : Go.Shelf.Ren := ⟨fun | 5 => 153 | 7 => 174 | n => n, fun | 3 => 3 | 4 => 4 | 22 => 3 | n => n, fun n => n⟩
theorem cmpP : SlLaysC2.n5 Tryz.prog cmpP_ren where
  mixed := by kernel_rfl
  f5 := ⟨ "cmp.Compare[int]", by decide, Tryz.func153.trans (congrArg some (by kernel_rfl))⟩
  f7 := ⟨ "cmp.isNaN[int]", by decide, Tryz.func174.trans (congrArg some (by kernel_rfl))⟩
  t3 := Tryz.underlying3
  a3 := Tryz.isAgg3
  z3 := Tryz.sizeOf3
  v3 := Tryz.zeroValue3
  t4 := Tryz.underlying4
  a4 := Tryz.isAgg4
  z4 := Tryz.sizeOf4
  v4 := Tryz.zeroValue4
  t22 := Tryz.underlying3
  a22 := Tryz.isAgg3
  z22 := Tryz.sizeOf3
  v22 := Tryz.zeroValue3
namespace room
theorem ltFr (x y : Piece) : ltOf (fun x y : Piece => Lib.compareInt x.fr y.fr) x y = decide (x.fr < y.fr) := by
  unfold ltOf Lib.compareInt
  by_cases h1 : x.fr < y.fr
  · simp [h1]
  · by_cases h2 : y.fr < x.fr <;> simp [h1, h2]
theorem swoFr : SWO (ltOf fun x y : Piece => Lib.compareInt x.fr y.fr) where
  irrefl x := by rw [ltFr]; simp
  trans x y z h1 h2 := by rw [ltFr] at *; simp at *; omega
  ntrans x y z h1 h2 := by rw [ltFr] at *; simp at *; omega
set_option maxHeartbeats 1000000 in
theorem closureP (x y : Piece) (W : World) : Calls Tryz.prog 152 #[.agg #[.int .i64 x.fr, .int .i64 x.ct], .agg #[.int .i64 y.fr, .int .i64 y.ct]] W fun e w' => e = .returned (.int .i64 (Lib.compareInt x.fr y.fr)) ∧ ∃ q os', w' = grow (W.drewN q) os' := by
  have hcon := fun W' => AnyG.cmp_Compare_int cmpP x.fr y.fr W'
  change ∀ W', Calls Tryz.prog 153 _ _ _ at hcon
  generalize Lib.compareInt x.fr y.fr = r at hcon ⊢
  go_enter Tryz.func152, Tryz.ntmps152
  go_wp2_with (go_at_call 153; refine (hcon _).mono ?_; rintro e w' ⟨rfl, rfl⟩)
  go_ret
  exact ⟨rfl, 0, _, by rw [alloc_eq_grow, alloc_eq_grow, grow_grow]; rfl⟩
theorem cmpLaysP (blk off size : Nat) (w : World) : CmpLays Tryz.prog 152 #[] encP 2 (fun x y : Piece => Lib.compareInt x.fr y.fr) blk off size w :=
  fun _ _ _ _ x y => closureP x y _
end room
open room
theorem SortFunc_fn {w : World} {v : Value} {xs : List Piece} {B : Nat → Prop} (hO : OwnO tPiece (fun _ => False) 40 w v xs B) : Fn Tryz.prog 151 [v, .func (.func 152) #[] #[]] w (fun r w2 => r = .tuple #[] ∧ ∃ ys, ys.Perm xs ∧ ys.Pairwise (fun p q => p.fr ≤ q.fr) ∧ OwnO tPiece (fun _ => False) 40 w2 v ys B ∧ Ext B w w2) := by
  rcases hO with ⟨rfl, rfl⟩ | ⟨b, hb, hlt, hl, ⟨rfl, rfl⟩ | ⟨cap, us, sp, rfl, hc, he, hB, hn⟩⟩
  · refine ⟨fun w' => Tryz.call151 _ w', fun w' hw => ?_⟩
    have h := AnyF.slices_SortFunc_none sortP none 0 (.func (.func 152) #[] #[]) w'
    refine Calls.mono h ?_
    rintro e w2 ⟨rfl, rfl⟩
    exact ⟨_, w, hw, rfl, rfl, [], .nil, .nil, OwnO.nil, .refl _⟩
  · refine ⟨fun w' => Tryz.call151 _ w', fun w' hw => ?_⟩
    have h := AnyF.slices_SortFunc_none sortP none 0 (.func (.func 152) #[] #[]) w'
    refine Calls.mono h ?_
    rintro e w2 ⟨rfl, rfl⟩
    exact ⟨_, w, hw, rfl, rfl, [], .nil, .nil, OwnO.nil, .refl _⟩
  · refine ⟨fun w' => Tryz.call151 _ w', fun w' hw => ?_⟩
    have hfl := flat_P he
    have hrg := each_range he
    rw [hfl] at hB hn
    have hB' : Blk w' b 40 (flatP xs ++ sp) := hB.keep (by rw [hw.heap])
    have eg : ∀ args w, (callFunc 152 args).run Tryz.prog w = .ok (.enter 152 args) w := enters_of Tryz.func152 (by kernel_rfl) rfl
    have hcon := AnyQ.slices_SortFunc sortP 2 Tryz.isAgg40 Tryz.sizeOf40 encP (fun _ => rfl) (fun x v hv => by simp [encP] at hv; rcases hv with rfl | rfl <;> rfl) (fun x y : Piece => Lib.compareInt x.fr y.fr) swoFr 152 #[] b 0 cap xs.toArray w' eg (cmpLaysP b 0 xs.toArray.size w') (holdsK_of hB') hB'.lt (by simp only [Lim] at hl; simp; omega)
    refine Calls.mono hcon ?_
    rintro e w2 ⟨rfl, d', n, os, hp, hs, rfl⟩
    obtain ⟨p1, p2, p3⟩ := hp
    obtain ⟨ys, rfl⟩ : ∃ ys : List Piece, d' = ys.toArray := ⟨d'.toList, by simp⟩
    have hlen : ys.length = xs.length := by simpa using p1
    have hperm : ys.Perm xs := by
      have e1 : (ys.toArray.extract 0 xs.toArray.size).toList = ys := by simp [← hlen]
      have e2 : (xs.toArray.extract 0 xs.toArray.size).toList = xs := by simp
      rw [e1, e2] at p3
      exact p3
    have hsorted : ys.Pairwise (fun p q => p.fr ≤ q.fr) := by
      rw [List.pairwise_iff_getElem]
      intro i j hi hj hij
      have h := hs i j (Nat.zero_le _) hij (by simpa [hlen] using hj)
      rw [ltFr] at h
      have e1 : ys.toArray[i]! = ys[i] := by simp [hi]
      have e2 : ys.toArray[j]! = ys[j] := by simp [hj]
      rw [e1, e2] at h
      have h := of_decide_eq_false h
      omega
    obtain ⟨g1, g2⟩ := sorted_world (n := n) (os := os) hw hB hlen
    have hry : ∀ p ∈ ys, (-9223372036854775808 ≤ p.fr ∧ p.fr ≤ 9223372036854775807) ∧ -9223372036854775808 ≤ p.ct ∧ p.ct ≤ 9223372036854775807 := fun p hp => hrg p (hperm.mem_iff.1 hp)
    have hey := each_P (P := fun _ => False) (w := sortWorldK encP 2 w' b 0 n ys.toArray os) hry
    refine ⟨_, _, .refl _, rfl, rfl, ys, hperm, hsorted, .inr ⟨b, hb, g1.lt, by rw [hlen]; exact hl, .inr ⟨cap, _, sp, by rw [hlen], by rw [hlen]; exact hc, hey, by rw [flat_P hey]; exact g1, ?_⟩⟩, g2.mono (by rintro k _ rfl; exact hb)⟩
    rw [flat_P hey, List.length_append, flatP_length, hlen, ← hn, List.length_append, flatP_length]
end Go.Proofs.YtpfehnopghffjaaGreatDoor
