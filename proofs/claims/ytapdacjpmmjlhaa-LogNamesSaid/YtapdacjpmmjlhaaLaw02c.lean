
/-
  The statements of chapter 02 without the document's answer: what becomes of a sector; a write, read, not sure.
-/
import Derived.Test.YtapdacjpmmjlhaaLaw02a
set_option linter.unusedVariables false
set_option linter.unusedSimpArgs false
set_option maxRecDepth 20000
namespace Go.Proofs.Ytapdacjpmmjlhaa
open Go disk
namespace disk
def secOf (l : Bs) (n : Nat) : Bs := (l.drop (n * 128)).take 128
/-- the sector n, the first writes that are kept made sure -/
def lastK (d : Disk) (keep : Nat → Bool) (n : Nat) : Nat → Bs
  | 0 => secOf d.data n
  | k + 1 => match d.waits[k]? with | some p => if keep k = true ∧ p.sector = (n : Int) then p.data else lastK d keep n k | none => lastK d keep n k
theorem secOf_patch {l x : Bs} {m n : Nat} (hx : x.length = 128) (hm : m * 128 + 128 ≤ l.length) (hn : n * 128 + 128 ≤ l.length) : secOf (patch l (m * 128) x) n = if m = n then x else secOf l n := by
  unfold secOf patch
  rw [hx]
  have h1 : (l.take (m * 128)).length = m * 128 := by simp; omega
  split
  · rename_i h
    subst h
    rw [List.append_assoc, List.drop_append, h1, Nat.sub_self, List.drop_zero, List.drop_of_length_le (by omega), List.nil_append, List.take_append_of_le_length (by omega), List.take_of_length_le (by omega)]
  · rename_i h
    rcases Nat.lt_or_gt_of_ne h with h | h
    · have h2 : (l.take (m * 128) ++ x).length = m * 128 + 128 := by rw [List.length_append, h1, hx]
      rw [List.drop_append, h2, List.drop_of_length_le (by omega), List.nil_append, List.drop_drop]
      congr 2
      omega
    · rw [List.append_assoc, List.drop_append, h1, List.take_append_of_le_length (by simp; omega), List.drop_take, List.take_take]
      congr 1
      omega
theorem settled_sec {d : Disk} (hc : checkF d = 0) (keep : Nat → Bool) {n : Nat} (hn : (n : Int) < d.count) : ∀ k, secOf (settled d keep k) n = lastK d keep n k
  | 0 => rfl
  | k + 1 => by
    obtain ⟨k1, k2, k3, k4, k5⟩ := check_ok hc
    have ih := settled_sec hc keep hn k
    rw [settled, lastK]
    cases hp : d.waits[k]? with
    | none => exact ih
    | some p =>
      show secOf (if keep k = true then patch (settled d keep k) (p.sector.toNat * 128) p.data else settled d keep k) n = if keep k = true ∧ p.sector = (n : Int) then p.data else lastK d keep n k
      have h5 := k5 p (List.mem_of_getElem? hp)
      have hl := settled_length hc keep k
      by_cases hk : keep k = true
      · rw [if_pos hk, secOf_patch h5.2.2 (by rw [hl]; omega) (by rw [hl]; omega), ih]
        by_cases hs : p.sector = (n : Int)
        · rw [if_pos (by omega), if_pos ⟨hk, hs⟩]
        · rw [if_neg (by omega), if_neg (fun h => hs h.2)]
      · rw [if_neg hk, if_neg (fun h => hk h.1)]
        exact ih
theorem lastK_or (d : Disk) (keep : Nat → Bool) (n : Nat) : ∀ k, lastK d keep n k = secOf d.data n ∨ ∃ (i : Nat) (p : disk.Put), d.waits[i]? = some p ∧ p.sector = (n : Int) ∧ p.data = lastK d keep n k
  | 0 => .inl rfl
  | k + 1 => by
    rw [lastK]
    split
    · rename_i p hp
      split
      · rename_i h
        exact .inr ⟨k, p, hp, h.2, rfl⟩
      · exact lastK_or d keep n k
    · exact lastK_or d keep n k
theorem lastOf_snoc (ws : List disk.Put) (p : disk.Put) (n : Int) : lastOf (ws ++ [p]) n = if p.sector = n then some p.data else lastOf ws n := by
  unfold lastOf
  rw [List.reverse_append, List.reverse_singleton, List.singleton_append, List.find?_cons]
  split
  · rename_i h
    rw [if_pos (by simpa using h)]
    rfl
  · rename_i h
    rw [if_neg (by simpa using h)]
theorem lastK_all (d : Disk) (n : Nat) : ∀ k, k ≤ d.waits.length → lastK d (fun _ => true) n k = match lastOf (d.waits.take k) n with | some b => b | none => secOf d.data n
  | 0, _ => rfl
  | k + 1, h => by
    have hk : k < d.waits.length := by omega
    rw [lastK, List.getElem?_eq_getElem hk, List.take_succ_eq_append_getElem hk, lastOf_snoc]
    simp only [true_and]
    split
    · rfl
    · exact lastK_all d n k (by omega)
theorem flush_sec {d : Disk} (hc : checkF d = 0) {n : Nat} (hn : (n : Int) < d.count) : secOf (settled d (fun _ => true) d.waits.length) n = readF d n := by
  rw [settled_sec hc _ hn, lastK_all d n _ (Nat.le_refl _), List.take_length]
  rfl
theorem asked_ok {d : Disk} {n : Int} (h : askedF d n = 0) : checkF d = 0 ∧ 0 ≤ n ∧ n < d.count := by
  unfold askedF at h
  split at h
  · omega
  · rename_i h1
    split at h
    · omega
    · exact ⟨Decidable.byContradiction h1, by omega, by omega⟩
theorem asked_same {d e : Disk} (h1 : checkF d = 0) (h2 : checkF e = 0) (h3 : e.count = d.count) (n : Int) : askedF e n = askedF d n := by
  unfold askedF
  rw [h1, h2, h3]
theorem asked_of {d : Disk} {n : Int} (h : checkF d = 0) (h1 : 0 ≤ n) (h2 : n < d.count) : askedF d n = 0 := by
  unfold askedF
  rw [if_neg (by simp [h]), if_neg (by omega)]
/-- a write that went well -/
theorem write_ok {d : Disk} {n : Int} {b : Bs} (h : (doF d [⟨false, n, b⟩]).2 = 0) : checkF d = 0 ∧ 0 ≤ n ∧ n < d.count ∧ b.length = 128 ∧ d.waits.length < 4096 ∧ doF d [⟨false, n, b⟩] = ({ d with waits := d.waits ++ [⟨n, b⟩] }, 0) := by
  unfold doF at h ⊢
  split at h
  · rename_i h1; exact absurd h h1
  · rename_i h1
    rw [if_neg h1]
    rw [doN] at h ⊢
    simp only [Bool.false_eq_true, if_false] at h ⊢
    split at h
    · cases h
    · rename_i h2
      rw [if_neg h2]
      split at h
      · cases h
      · rename_i h3
        rw [if_neg h3]
        split at h
        · cases h
        · rename_i h4
          rw [if_neg h4]
          exact ⟨Decidable.byContradiction h1, by omega, by omega, by omega, by omega, rfl⟩
theorem doN_bad (c : Int) : ∀ (l : List Act) (out : Disk), ¬ (doN c l out).2 = 0 → (doN c l out).1 = nodisk
  | [], out, h => absurd rfl h
  | a :: l, out, h => by
    rw [doN] at h ⊢
    split
    · rename_i h1; rw [if_pos h1] at h; exact doN_bad c l _ h
    · rename_i h1
      rw [if_neg h1] at h
      split
      · rfl
      · rename_i h2
        rw [if_neg h2] at h
        split
        · rfl
        · rename_i h3
          rw [if_neg h3] at h
          split
          · rfl
          · rename_i h4; rw [if_neg h4] at h; exact doN_bad c l _ h
theorem doF_bad {d : Disk} {l : List Act} (h : ¬ (doF d l).2 = 0) : (doF d l).1 = nodisk := by
  unfold doF at h ⊢
  split
  · rfl
  · rename_i h1; rw [if_neg h1] at h; exact doN_bad _ _ _ h
theorem readF_put_same {d : Disk} {n : Int} {b : Bs} : readF { d with waits := d.waits ++ [⟨n, b⟩] } n = b := by
  unfold readF
  rw [lastOf_snoc, if_pos rfl]
theorem readF_put_other {d : Disk} {n m : Int} {b : Bs} (h : ¬ m = n) : readF { d with waits := d.waits ++ [⟨n, b⟩] } m = readF d m := by
  unfold readF
  rw [lastOf_snoc, if_neg (fun e => h e.symm)]
theorem flush_ok {d : Disk} (h : checkF d = 0) : doF d [⟨true, 0, []⟩] = (settleD d (fun _ => true), 0) := by
  unfold doF
  rw [if_neg (by simp [h])]
  rfl
theorem readF_settle (d : Disk) (keep : Nat → Bool) (n : Int) : readF (settleD d keep) n = secOf (settled d keep d.waits.length) n.toNat := rfl
theorem flush_read {d : Disk} (hc : checkF d = 0) {n : Int} (h0 : 0 ≤ n) (hn : n < d.count) : secOf (settled d (fun _ => true) d.waits.length) n.toNat = readF d n := by
  have := flush_sec hc (n := n.toNat) (by omega)
  rw [this]
  congr 1
  omega
def D0 : Disk := ⟨2, List.replicate 256 0, []⟩
def D1 : Disk := ⟨2, List.replicate 256 0, [⟨1, List.replicate 128 1⟩]⟩
theorem new2 : newF 2 = (D0, 0) := by unfold newF; rw [if_neg (by omega)]; rfl
theorem write2 : doF D0 [⟨false, 1, List.replicate 128 1⟩] = (D1, 0) := by decide +kernel
theorem asked2 : askedF D1 1 = 0 := by decide +kernel
theorem read2 : readF D1 1 = List.replicate 128 1 := by decide +kernel
theorem sure2 : (D1.data.drop ((1 : Int).toNat * 128)).take 128 = List.replicate 128 0 := by decide +kernel
end disk
theorem New2_fn {w : World} : Fn Try.prog 31 [i64 2] w (fun r w2 => ∃ v, r = .tuple #[v, i64 0] ∧ tDisk.rep (fun k => k < w2.heap.size) w2 v D0 ∧ Ext (fun _ => False) w w2) :=
  (New_fn (n := 2)).mono fun r w2 ⟨v, h1, h2, h3⟩ => ⟨v, by rw [h1, new2], by rw [new2] at h2; exact tDisk.mono h2 (fun k _ h => h), h3⟩
theorem Read2_fn {w : World} {v : Value} (h : tDisk.rep All w v D1) : Fn Try.prog 63 [v, i64 1] w (fun r w2 => ∃ s b, r = .tuple #[s, i64 0] ∧ Own tByte (fun _ => False) 5 w2 s (List.replicate 128 1) b ∧ Ext (fun _ => False) w w2) :=
  (Read_fn (n := 1) h).mono fun r w2 ⟨s, b, h1, h2, _, h3⟩ => ⟨s, b, by rw [h1, asked2], by rw [if_pos asked2, read2] at h2; exact h2, h3⟩
theorem Sure2_fn {w : World} {v : Value} (h : tDisk.rep All w v D1) : Fn Try.prog 68 [v, i64 1] w (fun r w2 => ∃ s b, r = .tuple #[s, i64 0] ∧ Own tByte (fun _ => False) 5 w2 s (List.replicate 128 0) b ∧ Ext (fun _ => False) w w2) :=
  (Sure_fn (n := 1) h).mono fun r w2 ⟨s, b, h1, h2, _, h3⟩ => ⟨s, b, by rw [h1, asked2], by rw [if_pos asked2, sure2] at h2; exact h2, h3⟩
end Go.Proofs.Ytapdacjpmmjlhaa
