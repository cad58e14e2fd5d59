
/-
  Layer 5: what a log is on a disk, and the acts that turn it. Plain functions.
-/
import Derived.Test.YtapdacjpmmjlhaaLogLaw
import Derived.Test.YtapdacjpmmjlhaaDisk1
set_option linter.unusedVariables false
set_option linter.unusedSimpArgs false
namespace Go.Proofs.Ytapdacjpmmjlhaa
open Go disk
/-- one turn behind another: what the second one turns is either new or among what the first one turns -/
theorem Ext.thenS {S S' : Nat → Prop} {a b c : World} (h : Ext S a b) (k : Ext S' b c) (hs : ∀ i, S' i → i < b.heap.size → S i ∨ a.heap.size ≤ i) : Ext S a c :=
  ⟨k.os.trans h.os, k.tape.trans h.tape, k.output.trans h.output, Nat.le_trans h.size k.size, fun i hi hn =>
    (k.block i (Nat.lt_of_lt_of_le hi h.size) (fun hx => by rcases hs i hx (Nat.lt_of_lt_of_le hi h.size) with h1 | h1; exact hn h1; omega)).trans (h.block i hi hn)⟩
namespace log
theorem readF_length {d : Disk} (h : checkF d = 0) {n : Int} (h0 : 0 ≤ n) (hn : n < d.count) : (readF d n).length = 128 := by
  obtain ⟨k1, k2, k3, k4, k5⟩ := check_ok h
  unfold readF
  split
  · rename_i b hb
    unfold lastOf at hb
    rw [Option.map_eq_some_iff] at hb
    obtain ⟨p, hp, rfl⟩ := hb
    exact (k5 p (List.mem_reverse.1 (List.mem_of_find?_eq_some hp))).2.2
  · rw [List.length_take, List.length_drop]; omega
theorem asked_in {d : Disk} (h : checkF d = 0) {n : Int} (h0 : 0 ≤ n) (hn : n < d.count) : askedF d n = 0 := by
  unfold askedF
  rw [if_neg (by simp [h]), if_neg (by omega)]
def headN (d : Disk) : Nat := getTo ((readF d 16).take 8) 8
def headF (d : Disk) : UInt32 := if headN d ≤ 4294967295 ∧ (readF d 16).drop 8 = List.replicate 120 0 then UInt32.ofNat (headN d) else 0
def thereF (d : Disk) : Int := if ¬ checkF d = 0 then checkF d else if d.count < 80 then 50 else 0
theorem there_ok {d : Disk} (h : thereF d = 0) : checkF d = 0 ∧ 80 ≤ d.count := by
  unfold thereF at h
  split at h
  · exact absurd h (by assumption)
  · split at h
    · cases h
    · exact ⟨Decidable.byContradiction (by assumption), by omega⟩
def bodyTo (d : Disk) (k : Nat) : Bs := (List.range k).flatMap (fun i => readF d ((17 + i : Nat) : Int))
theorem bodyTo_succ (d : Disk) (k : Nat) : bodyTo d (k + 1) = bodyTo d k ++ readF d ((17 + k : Nat) : Int) := by
  unfold bodyTo
  rw [List.range_succ, List.flatMap_append]
  simp
theorem bodyTo_length {d : Disk} (h : checkF d = 0) (hc : 80 ≤ d.count) : ∀ {k : Nat}, k ≤ 63 → (bodyTo d k).length = k * 128
  | 0, _ => by simp [bodyTo]
  | k + 1, hk => by
    rw [bodyTo_succ, List.length_append, bodyTo_length h hc (by omega), readF_length h (by omega) (by omega)]
    omega
theorem open_fit (epoch prev : UInt32) (b : Bs) : (openF epoch prev b).2.2.1 * 128 ≤ b.length := by
  unfold openF
  split
  · simp
  · split
    · simp
    · split
      · simp
      · split
        · show (b.getD 13 0).toNat * 128 ≤ b.length
          omega
        · simp
theorem open_text (epoch prev : UInt32) (b : Bs) : (openF epoch prev b).1.length ≤ (openF epoch prev b).2.2.1 * 112 := by
  unfold openF
  split
  · simp
  · split
    · simp
    · split
      · simp
      · split
        · exact textTo_length b _
        · simp
theorem open_short {epoch prev : UInt32} {b : Bs} (h : b.length < 128) : (openF epoch prev b).2.2.1 = 0 := by
  have := open_fit epoch prev b
  omega
/-- records, one behind the other; the last one's salt; how many sectors -/
def scan (epoch : UInt32) : Nat → UInt32 → Bs → List Bs × UInt32 × Nat
  | 0, last, _ => ([], last, 0)
  | f + 1, last, b =>
    if (openF epoch last b).2.2.1 = 0 then ([], last, 0)
    else ((openF epoch last b).1 :: (scan epoch f (openF epoch last b).2.1 (b.drop ((openF epoch last b).2.2.1 * 128))).1, (scan epoch f (openF epoch last b).2.1 (b.drop ((openF epoch last b).2.2.1 * 128))).2.1, (openF epoch last b).2.2.1 + (scan epoch f (openF epoch last b).2.1 (b.drop ((openF epoch last b).2.2.1 * 128))).2.2)
theorem scan_end {epoch : UInt32} {f : Nat} {last : UInt32} {b : Bs} (h : (openF epoch last b).2.2.1 = 0) : scan epoch f last b = ([], last, 0) := by
  cases f with
  | zero => rfl
  | succ f => rw [scan, if_pos h]
theorem scan_more {epoch : UInt32} {f : Nat} {last : UInt32} {b : Bs} (h : ¬ (openF epoch last b).2.2.1 = 0) : scan epoch (f + 1) last b = ((openF epoch last b).1 :: (scan epoch f (openF epoch last b).2.1 (b.drop ((openF epoch last b).2.2.1 * 128))).1, (scan epoch f (openF epoch last b).2.1 (b.drop ((openF epoch last b).2.2.1 * 128))).2.1, (openF epoch last b).2.2.1 + (scan epoch f (openF epoch last b).2.1 (b.drop ((openF epoch last b).2.2.1 * 128))).2.2) := by
  rw [scan, if_neg h]
theorem scan_fit (epoch : UInt32) : ∀ (f : Nat) (last : UInt32) (b : Bs), (scan epoch f last b).2.2 * 128 ≤ b.length ∧ (scan epoch f last b).1.length ≤ (scan epoch f last b).2.2
  | 0, last, b => by simp [scan]
  | f + 1, last, b => by
    by_cases h : (openF epoch last b).2.2.1 = 0
    · rw [scan_end h]; simp
    · rw [scan_more h]
      have h1 := open_fit epoch last b
      have h2 := scan_fit epoch f (openF epoch last b).2.1 (b.drop ((openF epoch last b).2.2.1 * 128))
      rw [List.length_drop] at h2
      simp only [List.length_cons]
      omega
/-- what all sectors behind the head hold -/
theorem fu_ex : ∃ n : Nat, n = 63 := ⟨63, rfl⟩
/-- 63, as a number that the kernel does not unfold -/
noncomputable def fu : Nat := Classical.choose fu_ex
theorem fu_eq : fu = 63 := Classical.choose_spec fu_ex
noncomputable def scanD (d : Disk) : List Bs × UInt32 × Nat := scan (headF d) fu 0 (bodyTo d 63)
theorem scanD_eq (d : Disk) : scanD d = scan (headF d) fu 0 (bodyTo d 63) := rfl
theorem scanD_fit {d : Disk} (h3 : checkF d = 0) (h4 : 80 ≤ d.count) : (scanD d).2.2 ≤ 63 ∧ (scanD d).1.length ≤ (scanD d).2.2 := by
  have h5 := scan_fit (headF d) fu 0 (bodyTo d 63)
  rw [bodyTo_length h3 h4 (Nat.le_refl _), ← scanD_eq] at h5
  omega
/-- so far these records, this salt, so many sectors; behind it these bytes -/
def Tot (d : Disk) (rs : List Bs) (last : UInt32) (a : Nat) (rb : Bs) (f : Nat) : Prop :=
  (rs ++ (scan (headF d) f last rb).1, (scan (headF d) f last rb).2.1, a + (scan (headF d) f last rb).2.2) = scanD d
theorem Tot.start (d : Disk) : Tot d [] 0 0 (bodyTo d 63) fu := by
  unfold Tot
  rw [scanD_eq, List.nil_append, Nat.zero_add]
theorem Tot.done {d : Disk} {rs : List Bs} {last : UInt32} {a : Nat} {rb : Bs} {f : Nat} (h : Tot d rs last a rb f) (h0 : (openF (headF d) last rb).2.2.1 = 0) : scanD d = (rs, last, a) := by
  unfold Tot at h
  rw [scan_end h0] at h
  simp only [List.append_nil, Nat.add_zero] at h
  exact h.symm
theorem Tot.step {d : Disk} {rs : List Bs} {last : UInt32} {a : Nat} {rb : Bs} {f : Nat} (h : Tot d rs last a rb (f + 1)) (h0 : ¬ (openF (headF d) last rb).2.2.1 = 0) :
    Tot d (rs ++ [(openF (headF d) last rb).1]) (openF (headF d) last rb).2.1 (a + (openF (headF d) last rb).2.2.1) (rb.drop ((openF (headF d) last rb).2.2.1 * 128)) f := by
  unfold Tot at *
  rw [scan_more h0] at h
  rw [← h]
  simp only [List.append_assoc, List.singleton_append, Nat.add_assoc]
structure LogS where
  epoch : UInt32
  last : UInt32
  recs : List Bs
  at' : Nat
def noLog : LogS := ⟨0, 0, [], 0⟩
noncomputable def stateF (d : Disk) : LogS × Int :=
  if ¬ thereF d = 0 then (noLog, thereF d) else if headF d = 0 then (noLog, 50)
  else (⟨headF d, (scanD d).2.1, (scanD d).1, (scanD d).2.2⟩, 0)
theorem state_there {d : Disk} (h : ¬ thereF d = 0) : stateF d = (noLog, thereF d) := by unfold stateF; rw [if_pos h]
theorem state_head {d : Disk} (h : thereF d = 0) (h2 : headF d = 0) : stateF d = (noLog, 50) := by unfold stateF; rw [if_neg (fun hh => hh h), if_pos h2]
theorem state_good {d : Disk} (h : thereF d = 0) (h2 : ¬ headF d = 0) : stateF d = (⟨headF d, (scanD d).2.1, (scanD d).1, (scanD d).2.2⟩, 0) := by unfold stateF; rw [if_neg (fun hh => hh h), if_neg h2]
theorem state_ok {d : Disk} (h : (stateF d).2 = 0) : thereF d = 0 ∧ checkF d = 0 ∧ 80 ≤ d.count ∧ ¬ headF d = 0 ∧ (stateF d).1 = ⟨headF d, (scanD d).2.1, (scanD d).1, (scanD d).2.2⟩ ∧ (stateF d).1.at' ≤ 63 := by
  by_cases h1 : thereF d = 0
  · obtain ⟨h3, h4⟩ := there_ok h1
    by_cases h2 : headF d = 0
    · rw [state_head h1 h2] at h; cases h
    · rw [state_good h1 h2]
      exact ⟨h1, h3, h4, h2, rfl, (scanD_fit h3 h4).1⟩
  · rw [state_there h1] at h; exact absurd h h1
theorem state_at (d : Disk) : (stateF d).1.at' ≤ 63 ∧ (stateF d).1.recs.length ≤ (stateF d).1.at' := by
  by_cases h : (stateF d).2 = 0
  · obtain ⟨h1, h2, h3, h4, h5, h6⟩ := state_ok h
    refine ⟨h6, ?_⟩
    rw [h5]
    exact (scanD_fit h2 h3).2
  · by_cases h1 : thereF d = 0
    · by_cases h2 : headF d = 0
      · rw [state_head h1 h2]; exact ⟨Nat.zero_le _, Nat.le_refl _⟩
      · rw [state_good h1 h2] at h; exact absurd rfl h
    · rw [state_there h1]; exact ⟨Nat.zero_le _, Nat.le_refl _⟩
/-- the greatest salt of the epoch's sectors from a on -/
def saltStep (d : Disk) (epoch : UInt32) (i : Nat) (m : UInt32) : UInt32 :=
  if get4 (readF d ((17 + i : Nat) : Int)) = epoch then max (max m (get4 ((readF d ((17 + i : Nat) : Int)).drop 4))) (get4 ((readF d ((17 + i : Nat) : Int)).drop 8)) else m
def saltTo (d : Disk) (epoch : UInt32) (a : Nat) : Nat → UInt32
  | 0 => 0
  | k + 1 => saltStep d epoch (a + k) (saltTo d epoch a k)
def saltF (d : Disk) (epoch : UInt32) (a : Nat) : UInt32 := saltTo d epoch a (63 - a)
def actsTo (n : Nat) (b : Bs) (k : Nat) : List disk.Act := (List.range k).map (fun i => ⟨false, ⟨((n + i : Nat) : Int), (b.drop (i * 128)).take 128⟩⟩)
theorem actsTo_succ (n : Nat) (b : Bs) (k : Nat) : actsTo n b (k + 1) = actsTo n b k ++ [⟨false, ⟨((n + k : Nat) : Int), (b.drop (k * 128)).take 128⟩⟩] := by
  unfold actsTo
  rw [List.range_succ, List.map_append]
  rfl
theorem actsTo_length (n : Nat) (b : Bs) (k : Nat) : (actsTo n b k).length = k := by simp [actsTo]
noncomputable def addF (d : Disk) (r : Bs) : List disk.Act × Int :=
  if ¬ (stateF d).2 = 0 then ([], (stateF d).2) else if 4096 < r.length then ([], 3) else if 63 < (stateF d).1.at' + needs r.length then ([], 30)
  else if saltF d (stateF d).1.epoch (stateF d).1.at' = 4294967295 then ([], 30)
  else (actsTo (17 + (stateF d).1.at') (frameL (stateF d).1.epoch (saltF d (stateF d).1.epoch (stateF d).1.at' + 1) (stateF d).1.last r) (needs r.length), 0)
def epochTo (d : Disk) : Nat → UInt32
  | 0 => headF d
  | k + 1 => max (epochTo d k) (get4 (readF d ((17 + k : Nat) : Int)))
def clearB (e : UInt32) : Bs := put4 e ++ List.replicate 124 0
def clearF (d : Disk) : List disk.Act × Int :=
  if ¬ thereF d = 0 then ([], thereF d) else if epochTo d 63 = 4294967295 then ([], 30)
  else ([⟨false, ⟨16, clearB (epochTo d 63 + 1)⟩⟩, ⟨true, ⟨0, []⟩⟩], 0)
end log
end Go.Proofs.Ytapdacjpmmjlhaa
