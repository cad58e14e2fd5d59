import Derived.Test.YtpfehnopghffjaaGreatDoorQ14
import Derived.Test.YtpfehnopghffjaaGreatDoorQ13
import Derived.Test.YtpfehnopghffjaaGreatDoorProg
set_option linter.unusedVariables false
set_option linter.unusedSimpArgs false
set_option maxRecDepth 20000
/-
  bits.Read, bits.Cut: small numbers and texts, read.
-/
namespace Go.Proofs.YtpfehnopghffjaaGreatDoor
open Go
def sumTo (b : Bs) : Nat → Nat
  | 0 => 0
  | i + 1 => sumTo b i + (b.getD i 0).toNat % 128 * 128 ^ i
def leadN (b : Bs) : Nat := (b.takeWhile (fun x => decide (128 ≤ x.toNat))).length
def readOk (b : Bs) : Prop := leadN b < b.length ∧ leadN b ≤ 9 ∧ ¬ (leadN b = 9 ∧ 1 < (b.getD (leadN b) 0).toNat) ∧ ¬ (0 < leadN b ∧ (b.getD (leadN b) 0).toNat = 0)
instance (b : Bs) : Decidable (readOk b) := by unfold readOk; infer_instance
def readF (b : Bs) : Nat × Nat × Int := if readOk b then (sumTo b (leadN b + 1), leadN b + 1, 0) else (0, 0, 8)
theorem sumTo_lt (b : Bs) : ∀ i, sumTo b i < 128 ^ i
  | 0 => by simp [sumTo]
  | i + 1 => by
    have h := sumTo_lt b i
    rw [sumTo, Nat.pow_succ]
    have h1 : (b.getD i 0).toNat % 128 ≤ 127 := by omega
    have h2 : (b.getD i 0).toNat % 128 * 128 ^ i ≤ 127 * 128 ^ i := Nat.mul_le_mul_right _ h1
    omega
theorem pow7 (i : Nat) : 2 ^ (7 * i) = 128 ^ i := by rw [Nat.pow_mul]
theorem sum_or (b : Bs) (i : Nat) : sumTo b i ||| (b.getD i 0).toNat % 128 * 2 ^ (7 * i) = sumTo b (i + 1) := by
  have h := Nat.two_pow_add_eq_or_of_lt (i := 7 * i) (by rw [pow7]; exact sumTo_lt b i) ((b.getD i 0).toNat % 128)
  rw [Nat.or_comm, Nat.mul_comm, ← h, sumTo, pow7, Nat.mul_comm, Nat.add_comm]
theorem and127 (x : UInt8) : (x &&& 127).toNat = x.toNat % 128 := by
  rw [UInt8.toNat_and]
  exact Nat.and_two_pow_sub_one_eq_mod x.toNat 7
theorem sum_bd (b : Bs) {i : Nat} (hi : i ≤ 9) (h : i = 9 → (b.getD i 0).toNat ≤ 1) : (b.getD i 0).toNat % 128 * 2 ^ (7 * i) < 18446744073709551616 ∧ sumTo b (i + 1) < 18446744073709551616 := by
  have h1 := sumTo_lt b i
  rw [pow7, sumTo]
  rcases Nat.lt_or_ge i 9 with h9 | h9
  · have h3 : (128 : Nat) ^ i ≤ 128 ^ 8 := Nat.pow_le_pow_right (by decide) (by omega)
    have h2 : (b.getD i 0).toNat % 128 * 128 ^ i ≤ 127 * 128 ^ i := Nat.mul_le_mul_right _ (by omega)
    have h4 : (128 : Nat) ^ 8 = 72057594037927936 := by decide
    omega
  · obtain rfl : i = 9 := by omega
    have h2 := h rfl
    have h3 : (b.getD 9 0).toNat % 128 * 128 ^ 9 ≤ 1 * 128 ^ 9 := Nat.mul_le_mul_right _ (by omega)
    have h4 : (128 : Nat) ^ 9 = 9223372036854775808 := by decide
    omega
theorem lead_le : ∀ b : Bs, leadN b ≤ b.length
  | [] => Nat.le_refl _
  | x :: b => by
    unfold leadN
    rw [List.takeWhile_cons]
    split
    · have := lead_le b
      unfold leadN at this
      simp
      omega
    · simp
theorem lead_ge : ∀ (b : Bs) (i : Nat), i ≤ b.length → (∀ j (h : j < b.length), j < i → 128 ≤ b[j].toNat) → i ≤ leadN b
  | _, 0, _, _ => Nat.zero_le _
  | [], i + 1, h, _ => absurd h (Nat.not_succ_le_zero _)
  | x :: b, i + 1, h, ha => by
    have h0 := ha 0 (Nat.succ_pos _) (Nat.succ_pos _)
    have ih := lead_ge b i (by simpa using h) (fun j hj hlt => ha (j + 1) (by simpa using hj) (by omega))
    unfold leadN at *
    rw [List.takeWhile_cons, if_pos (by simpa using h0)]
    simp
    omega
theorem lead_at : ∀ (b : Bs) (h : leadN b < b.length), b[leadN b].toNat < 128
  | [], h => absurd h (Nat.not_lt_zero _)
  | x :: b, h => by
    by_cases hx : 128 ≤ x.toNat
    · have e : leadN (x :: b) = leadN b + 1 := by unfold leadN; rw [List.takeWhile_cons, if_pos (by simpa using hx)]; rfl
      have h' : leadN b < b.length := by rw [e] at h; simpa using h
      have := lead_at b h'
      simp only [e, List.getElem_cons_succ]
      exact this
    · have e : leadN (x :: b) = 0 := by unfold leadN; rw [List.takeWhile_cons, if_neg (by simpa using hx)]; rfl
      simp only [e, List.getElem_cons_zero]
      omega
theorem lead_eq {b : Bs} {i : Nat} (h : i < b.length) (ha : ∀ j (h : j < b.length), j < i → 128 ≤ b[j].toNat) (hi : b[i].toNat < 128) : leadN b = i := by
  have h1 := lead_ge b i (by omega) ha
  rcases Nat.lt_or_ge i (leadN b) with h2 | h2
  · exfalso
    have h3 : ∀ (b : Bs) (i : Nat) (hi : i < b.length), i < leadN b → 128 ≤ b[i].toNat := by
      intro b
      induction b with
      | nil => intro i hi; exact absurd hi (Nat.not_lt_zero _)
      | cons x b ih =>
        intro i hi hlt
        by_cases hx : 128 ≤ x.toNat
        · have e : leadN (x :: b) = leadN b + 1 := by unfold leadN; rw [List.takeWhile_cons, if_pos (by simpa using hx)]; rfl
          cases i with
          | zero => exact hx
          | succ i => exact ih i (by simpa using hi) (by omega)
        · have e : leadN (x :: b) = 0 := by unfold leadN; rw [List.takeWhile_cons, if_neg (by simpa using hx)]; rfl
          omega
    have := h3 b i h h2
    omega
  · omega
theorem getD_at {b : Bs} {i : Nat} (h : i < b.length) : b.getD i 0 = b[i] := by rw [List.getD_eq_getElem?_getD, List.getElem?_eq_getElem h]; rfl
theorem read_good {b : Bs} {i : Nat} (h : i < b.length) (h9 : i ≤ 9) (ha : ∀ j (h : j < b.length), j < i → 128 ≤ b[j].toNat) (hi : b[i].toNat < 128) (h1 : i = 9 → b[i].toNat ≤ 1) (h0 : 0 < i → b[i].toNat ≠ 0) : readF b = (sumTo b (i + 1), i + 1, 0) := by
  have e := lead_eq h ha hi
  unfold readF
  rw [if_pos, e]
  unfold readOk
  rw [e, getD_at h]
  exact ⟨h, h9, fun hx => by have := h1 hx.1; omega, fun hx => h0 hx.1 hx.2⟩
theorem read_bad0 {b : Bs} (ha : ∀ j (h : j < b.length), 128 ≤ b[j].toNat) : readF b = (0, 0, 8) := by
  have e := lead_ge b b.length (Nat.le_refl _) (fun j hj _ => ha j hj)
  unfold readF
  rw [if_neg]
  rintro ⟨h, _⟩
  omega
theorem read_bad9 {b : Bs} (h : 9 < b.length) (ha : ∀ j (h : j < b.length), j < 9 → 128 ≤ b[j].toNat) (h1 : 1 < b[9].toNat) : readF b = (0, 0, 8) := by
  have e := lead_ge b 9 (by omega) ha
  unfold readF
  rw [if_neg]
  rintro ⟨_, h9, hx, _⟩
  have e9 : leadN b = 9 := by omega
  rw [e9, getD_at h] at hx
  exact hx ⟨rfl, h1⟩
theorem read_badz {b : Bs} {i : Nat} (h : i < b.length) (ha : ∀ j (h : j < b.length), j < i → 128 ≤ b[j].toNat) (h0 : 0 < i) (h1 : b[i].toNat = 0) : readF b = (0, 0, 8) := by
  have e := lead_eq h ha (by omega)
  unfold readF
  rw [if_neg]
  rintro ⟨_, _, _, hx⟩
  rw [e, getD_at h] at hx
  exact hx ⟨h0, h1⟩
theorem Sl.isNone0 {α : Type} {t : Ty α} {P : Nat → Prop} {w : World} {a : Option Addr} {n cap : Nat} {xs : List α} (h : (Sl t).rep P w (.slice a n cap) xs) (ha : a.isNone = true) : xs = [] := by
  obtain ⟨_, a', cap', e, _, ⟨rfl, _⟩ | ⟨b, o, us, rfl, _⟩⟩ := h
  · rfl
  · cases e; cases ha
def cutF (b : Bs) : Bs × Bs × Int := if ¬ (readF b).2.2 = 0 ∨ b.length - (readF b).2.1 < (readF b).1 then ([], [], 8) else ((b.drop (readF b).2.1).take (readF b).1, (b.drop (readF b).2.1).drop (readF b).1, 0)
theorem readF_bd (b : Bs) : (readF b).1 < 18446744073709551616 ∧ (readF b).2.1 ≤ b.length := by
  unfold readF
  split
  · rename_i h
    obtain ⟨h1, h2, h3, h4⟩ := h
    exact ⟨(sum_bd b h2 (fun e => by omega)).2, by show leadN b + 1 ≤ _; omega⟩
  · exact ⟨by decide, Nat.zero_le _⟩
theorem Read_fn {w : World} {v : Value} {b : Bs} (h : tBytes.rep All w v b) : Fn Tryz.prog 57 [v] w (fun r w2 => r = .tuple #[.int .u64 ((readF b).1 : Nat), i64 ((readF b).2.1 : Nat), i64 (readF b).2.2] ∧ Ext (fun _ => False) w w2) := by
  obtain ⟨a, cap, rfl, hcap⟩ := Sl.val h
  have hlim := Sl.lim h
  simp only [Lim] at hlim
  refine Fn.enter (fun w => Tryz.call57 _ w) Tryz.func57 rfl ?_
  refine .seq (.region ?_)
  refine .p rfl rfl (.as rfl) ?_
  refine .p rfl rfl (.as rfl) ?_
  refine .p rfl rfl (.as rfl) ?_
  refine .nil (.code (.seq (.keep [(0, _)] ⟨rfl, trivial⟩ (.region ?_))))
  refine .p rfl rfl (.as rfl) ?_
  refine .nil (.code (.seq (.seq (.region ?_))))
  refine .p rfl rfl (.mv rfl) ?_
  refine .p rfl rfl (.len rfl rfl) ?_
  refine .p rfl rfl (.mv rfl) ?_
  refine .nil (.code (.block (.keep [(10, _), (9, _), (8, _), (5, _)] ⟨rfl, rfl, rfl, rfl, trivial⟩ ?_)))
  refine .loop (S := Nat) (fun s => [(5, .int .u64 (sumTo b s : Nat)), (8, .slice a b.length cap), (9, i64 b.length), (10, i64 s)]) (fun s => w) (fun s => s ≤ b.length ∧ s ≤ 9 ∧ ∀ j (h : j < b.length), j < s → 128 ≤ b[j].toNat) (fun s => b.length - s) 0 ⟨rfl, rfl, rfl, rfl, trivial⟩ rfl ⟨Nat.zero_le _, Nat.zero_le _, fun j _ h => absurd h (Nat.not_lt_zero _)⟩ ?_
  rintro i J ⟨hi', hi9, ha⟩ again
  refine .seq (.region ?_)
  refine .p rfl rfl (.lt rfl rfl) ?_
  refine .nil (.code (.seq ?_))
  refine .condD rfl (fun c11 => ?_) (fun c11 => ?_)
  · have hi : i < b.length := by omega
    obtain ⟨b0, o0, rfl, _, hc⟩ := Sl.byteAt h hi
    have hs0 : sumTo b i < 18446744073709551616 := by
      have h1 := sumTo_lt b i
      have h2 : (128 : Nat) ^ i ≤ 128 ^ 9 := Nat.pow_le_pow_right (by decide) hi9
      have h4 : (128 : Nat) ^ 9 = 9223372036854775808 := by decide
      omega
    have pow_cast : (((b.getD i 0).toNat % 128 * 2 ^ (7 * i) : Nat) : Int) = (((b.getD i 0).toNat % 128 : Nat) : Int) * 2 ^ (7 * i) := by simp
    refine .skip (.code (.seq (.block (.seq (.keep [(5, _), (8, _), (9, _), (10, _)] ⟨rfl, rfl, rfl, rfl, trivial⟩ (.region ?_))))))
    refine .p rfl rfl (.mv rfl) ?_
    refine .p rfl rfl (.indexAddr1 rfl rfl rfl rfl (by omega)) ?_
    refine .p rfl rfl (.load rfl rfl rfl hc) ?_
    refine .p rfl rfl (.as rfl) ?_
    refine .p rfl rfl (.as rfl) ?_
    refine .nil (.code (.seq (.seq (.keep [(7, _), (6, _), (5, _), (8, _), (9, _), (10, _)] ⟨rfl, rfl, rfl, rfl, rfl, rfl, trivial⟩ (.region ?_)))))
    refine .p rfl rfl (.mv rfl) ?_
    refine .p rfl rfl (.eq rfl rfl) ?_
    refine .p rfl rfl (.mv rfl) ?_
    refine .caseD 17 rfl (fun c17 => ?_) (fun c17 => ?_)
    · refine .p rfl rfl (.mv rfl) ?_
      refine .p rfl rfl (.gt rfl rfl) ?_
      refine .p rfl rfl (.pickT rfl rfl) ?_
      refine .nil (.code (.keep [(20, _), (7, _), (6, _), (5, _), (8, _), (9, _), (10, _)] ⟨rfl, rfl, rfl, rfl, rfl, rfl, rfl, trivial⟩ ?_))
      refine .condD rfl (fun c20 => ?_) (fun c20 => ?_)
      · refine .exit rfl (.code (.seq (.keep [] trivial (.region ?_))))
        refine .p rfl rfl (.as rfl) ?_
        refine .p rfl rfl (.as rfl) ?_
        refine .p rfl rfl (.as rfl) ?_
        refine .nil (.code ?_)
        refine .ret _ rfl ?_
        have hi9 : i = 9 := by omega
        subst hi9
        rw [read_bad9 hi ha (by omega)]
        exact ⟨rfl, .refl _⟩
      · have hsb := sum_bd b hi9 (fun e => by rw [getD_at hi]; omega)
        refine .skip (.code (.seq (.keep [(7, _), (6, _), (5, _), (8, _), (9, _), (10, _)] ⟨rfl, rfl, rfl, rfl, rfl, rfl, trivial⟩ (.region ?_))))
        refine .p rfl rfl (.mv rfl) ?_
        refine .p rfl rfl (.mv rfl) ?_
        refine .p rfl rfl (.and8 (b := 127) rfl rfl) ?_
        refine .p rfl rfl (.cast (.conv8_U rfl rfl rfl) (show _ = Value.int .u64 (((b.getD i 0).toNat % 128 : Nat) : Int) by rw [and127, getD_at hi])) ?_
        refine .p rfl rfl (.mv rfl) ?_
        refine .p rfl rfl (.cast (.mul rfl rfl (by omega)) (show _ = i64 ((7 * i : Nat) : Int) from congrArg i64 (by omega))) ?_
        refine .p rfl rfl (.cast (.shlU (7 * i) rfl rfl (by omega) (by rw [← pow_cast]; omega)) (show _ = Value.int .u64 (((b.getD i 0).toNat % 128 * 2 ^ (7 * i) : Nat) : Int) by rw [pow_cast])) ?_
        refine .p rfl rfl (.cast (.orU (p := sumTo b i) (q := (b.getD i 0).toNat % 128 * 2 ^ (7 * i)) rfl rfl hs0 (by omega)) (show _ = Value.int .u64 ((sumTo b (i + 1) : Nat) : Int) by rw [sum_or])) ?_
        refine .p rfl rfl (.as rfl) ?_
        refine .nil (.code (.seq (.keep [(5, _), (7, _), (6, _), (8, _), (9, _), (10, _)] ⟨rfl, rfl, rfl, rfl, rfl, rfl, trivial⟩ (.region ?_))))
        refine .p rfl rfl (.mv rfl) ?_
        refine .p rfl rfl (.lt rfl rfl) ?_
        refine .nil (.code (.keep [(30, _), (5, _), (7, _), (6, _), (8, _), (9, _), (10, _)] ⟨rfl, rfl, rfl, rfl, rfl, rfl, rfl, trivial⟩ ?_))
        refine .condD rfl (fun c30 => ?_) (fun c30 => ?_)
        · have hle := lead_eq hi ha (by omega)
          refine .seq (.seq (.keep [(5, _), (7, _), (6, _)] ⟨rfl, rfl, rfl, trivial⟩ (.region ?_)))
          refine .p rfl rfl (.mv rfl) ?_
          refine .p rfl rfl (.eq rfl rfl) ?_
          refine .p rfl rfl (.mv rfl) ?_
          refine .caseD 33 rfl (fun c33 => ?_) (fun c33 => ?_)
          · refine .p rfl rfl (.mv rfl) ?_
            refine .p rfl rfl (.gt rfl rfl) ?_
            refine .p rfl rfl (.pickT rfl rfl) ?_
            refine .nil (.code (.keep [(36, _), (5, _), (6, _)] ⟨rfl, rfl, rfl, trivial⟩ ?_))
            refine .condD rfl (fun c36 => ?_) (fun c36 => ?_)
            · refine .exit rfl (.code (.seq (.keep [] trivial (.region ?_))))
              refine .p rfl rfl (.as rfl) ?_
              refine .p rfl rfl (.as rfl) ?_
              refine .p rfl rfl (.as rfl) ?_
              refine .nil (.code ?_)
              refine .ret _ rfl ?_
              rw [read_badz hi ha (by omega) (by omega)]
              exact ⟨rfl, .refl _⟩
            · refine .skip (.code (.seq (.keep [(5, _), (6, _)] ⟨rfl, rfl, trivial⟩ (.region ?_))))
              refine .p rfl rfl (.mv rfl) ?_
              refine .p rfl rfl (.mv rfl) ?_
              refine .p rfl rfl (.add rfl rfl (by omega)) ?_
              refine .p rfl rfl (.as rfl) ?_
              refine .p rfl rfl (.as rfl) ?_
              refine .p rfl rfl (.as rfl) ?_
              refine .nil (.code ?_)
              refine .ret _ rfl ?_
              rw [read_good hi hi9 ha (by omega) (by omega) (by omega)]
              exact ⟨rfl, .refl _⟩
          · refine .skip rfl rfl ?_
            refine .skip rfl rfl ?_
            refine .p rfl rfl (.pickF rfl rfl) ?_
            refine .nil (.code (.keep [(36, _), (5, _), (6, _)] ⟨rfl, rfl, rfl, trivial⟩ (.condF rfl (.skip (.code (.seq (.keep [(5, _), (6, _)] ⟨rfl, rfl, trivial⟩ (.region ?_))))))))
            refine .p rfl rfl (.mv rfl) ?_
            refine .p rfl rfl (.mv rfl) ?_
            refine .p rfl rfl (.add rfl rfl (by omega)) ?_
            refine .p rfl rfl (.as rfl) ?_
            refine .p rfl rfl (.as rfl) ?_
            refine .p rfl rfl (.as rfl) ?_
            refine .nil (.code ?_)
            refine .ret _ rfl ?_
            rw [read_good hi hi9 ha (by omega) (by omega) (by omega)]
            exact ⟨rfl, .refl _⟩
        · refine .skip (.blk (.code (.keep [(5, _), (8, _), (9, _), (10, _)] ⟨rfl, rfl, rfl, rfl, trivial⟩ (.region ?_))))
          refine .p rfl rfl (.add rfl rfl (by omega)) ?_
          refine .p rfl rfl (.mv rfl) ?_
          refine .nil ?_
          exact (again (i + 1) ⟨by omega, by omega, fun j hj hlt => by
            rcases Nat.lt_or_ge j i with h2 | h2
            · exact ha j hj h2
            · have : j = i := by omega
              subst this
              omega⟩ (by show _ - (i + 1) < _ - i; omega)).of ⟨rfl, rfl, rfl, rfl, trivial⟩
    · have hsb := sum_bd b hi9 (fun e => absurd (by omega) c17)
      refine .skip rfl rfl ?_
      refine .skip rfl rfl ?_
      refine .p rfl rfl (.pickF rfl rfl) ?_
      refine .nil (.code (.keep [(20, _), (7, _), (6, _), (5, _), (8, _), (9, _), (10, _)] ⟨rfl, rfl, rfl, rfl, rfl, rfl, rfl, trivial⟩ (.condF rfl (.skip (.code (.seq (.keep [(7, _), (6, _), (5, _), (8, _), (9, _), (10, _)] ⟨rfl, rfl, rfl, rfl, rfl, rfl, trivial⟩ (.region ?_))))))))
      refine .p rfl rfl (.mv rfl) ?_
      refine .p rfl rfl (.mv rfl) ?_
      refine .p rfl rfl (.and8 (b := 127) rfl rfl) ?_
      refine .p rfl rfl (.cast (.conv8_U rfl rfl rfl) (show _ = Value.int .u64 (((b.getD i 0).toNat % 128 : Nat) : Int) by rw [and127, getD_at hi])) ?_
      refine .p rfl rfl (.mv rfl) ?_
      refine .p rfl rfl (.cast (.mul rfl rfl (by omega)) (show _ = i64 ((7 * i : Nat) : Int) from congrArg i64 (by omega))) ?_
      refine .p rfl rfl (.cast (.shlU (7 * i) rfl rfl (by omega) (by rw [← pow_cast]; omega)) (show _ = Value.int .u64 (((b.getD i 0).toNat % 128 * 2 ^ (7 * i) : Nat) : Int) by rw [pow_cast])) ?_
      refine .p rfl rfl (.cast (.orU (p := sumTo b i) (q := (b.getD i 0).toNat % 128 * 2 ^ (7 * i)) rfl rfl hs0 (by omega)) (show _ = Value.int .u64 ((sumTo b (i + 1) : Nat) : Int) by rw [sum_or])) ?_
      refine .p rfl rfl (.as rfl) ?_
      refine .nil (.code (.seq (.keep [(5, _), (7, _), (6, _), (8, _), (9, _), (10, _)] ⟨rfl, rfl, rfl, rfl, rfl, rfl, trivial⟩ (.region ?_))))
      refine .p rfl rfl (.mv rfl) ?_
      refine .p rfl rfl (.lt rfl rfl) ?_
      refine .nil (.code (.keep [(30, _), (5, _), (7, _), (6, _), (8, _), (9, _), (10, _)] ⟨rfl, rfl, rfl, rfl, rfl, rfl, rfl, trivial⟩ ?_))
      refine .condD rfl (fun c30 => ?_) (fun c30 => ?_)
      · have hle := lead_eq hi ha (by omega)
        refine .seq (.seq (.keep [(5, _), (7, _), (6, _)] ⟨rfl, rfl, rfl, trivial⟩ (.region ?_)))
        refine .p rfl rfl (.mv rfl) ?_
        refine .p rfl rfl (.eq rfl rfl) ?_
        refine .p rfl rfl (.mv rfl) ?_
        refine .caseD 33 rfl (fun c33 => ?_) (fun c33 => ?_)
        · refine .p rfl rfl (.mv rfl) ?_
          refine .p rfl rfl (.gt rfl rfl) ?_
          refine .p rfl rfl (.pickT rfl rfl) ?_
          refine .nil (.code (.keep [(36, _), (5, _), (6, _)] ⟨rfl, rfl, rfl, trivial⟩ ?_))
          refine .condD rfl (fun c36 => ?_) (fun c36 => ?_)
          · refine .exit rfl (.code (.seq (.keep [] trivial (.region ?_))))
            refine .p rfl rfl (.as rfl) ?_
            refine .p rfl rfl (.as rfl) ?_
            refine .p rfl rfl (.as rfl) ?_
            refine .nil (.code ?_)
            refine .ret _ rfl ?_
            rw [read_badz hi ha (by omega) (by omega)]
            exact ⟨rfl, .refl _⟩
          · refine .skip (.code (.seq (.keep [(5, _), (6, _)] ⟨rfl, rfl, trivial⟩ (.region ?_))))
            refine .p rfl rfl (.mv rfl) ?_
            refine .p rfl rfl (.mv rfl) ?_
            refine .p rfl rfl (.add rfl rfl (by omega)) ?_
            refine .p rfl rfl (.as rfl) ?_
            refine .p rfl rfl (.as rfl) ?_
            refine .p rfl rfl (.as rfl) ?_
            refine .nil (.code ?_)
            refine .ret _ rfl ?_
            rw [read_good hi hi9 ha (by omega) (by omega) (by omega)]
            exact ⟨rfl, .refl _⟩
        · refine .skip rfl rfl ?_
          refine .skip rfl rfl ?_
          refine .p rfl rfl (.pickF rfl rfl) ?_
          refine .nil (.code (.keep [(36, _), (5, _), (6, _)] ⟨rfl, rfl, rfl, trivial⟩ (.condF rfl (.skip (.code (.seq (.keep [(5, _), (6, _)] ⟨rfl, rfl, trivial⟩ (.region ?_))))))))
          refine .p rfl rfl (.mv rfl) ?_
          refine .p rfl rfl (.mv rfl) ?_
          refine .p rfl rfl (.add rfl rfl (by omega)) ?_
          refine .p rfl rfl (.as rfl) ?_
          refine .p rfl rfl (.as rfl) ?_
          refine .p rfl rfl (.as rfl) ?_
          refine .nil (.code ?_)
          refine .ret _ rfl ?_
          rw [read_good hi hi9 ha (by omega) (by omega) (by omega)]
          exact ⟨rfl, .refl _⟩
      · refine .skip (.blk (.code (.keep [(5, _), (8, _), (9, _), (10, _)] ⟨rfl, rfl, rfl, rfl, trivial⟩ (.region ?_))))
        refine .p rfl rfl (.add rfl rfl (by omega)) ?_
        refine .p rfl rfl (.mv rfl) ?_
        refine .nil ?_
        exact (again (i + 1) ⟨by omega, by omega, fun j hj hlt => by
          rcases Nat.lt_or_ge j i with h2 | h2
          · exact ha j hj h2
          · have : j = i := by omega
            subst this
            omega⟩ (by show _ - (i + 1) < _ - i; omega)).of ⟨rfl, rfl, rfl, rfl, trivial⟩
  · refine .exit rfl (.code (.seq (.keep [] trivial (.region ?_))))
    refine .p rfl rfl (.as rfl) ?_
    refine .p rfl rfl (.as rfl) ?_
    refine .p rfl rfl (.as rfl) ?_
    refine .nil (.code ?_)
    refine .ret _ rfl ?_
    rw [read_bad0 (fun j hj => ha j hj (by omega))]
    exact ⟨rfl, .refl _⟩
theorem bClone_fn {w : World} {v : Value} {l : Bs} (h : tBytes.rep All w v l) : Fn Tryz.prog 95 [v] w (fun r w2 => Gr w2 r l w.heap.size ∧ Ext (fun _ => False) w w2) := by
  obtain ⟨a, cap, rfl, hcap⟩ := Sl.val h
  have hlim := Sl.lim h
  simp only [Lim] at hlim
  refine Fn.enter (fun w => Tryz.call95 _ w) Tryz.func95 rfl ?_
  refine .seq (.region ?_)
  refine .p rfl rfl (.as rfl) ?_
  refine .nil (.code (.seq (.seq (.keep [(0, _)] ⟨rfl, trivial⟩ (.region ?_)))))
  refine .p rfl rfl (.mv rfl) ?_
  refine .p rfl rfl (.eqNil rfl rfl rfl) ?_
  refine .nil (.code (.keep [(4, _), (0, _)] ⟨rfl, rfl, trivial⟩ ?_))
  refine .cond rfl (fun c4 => ?_) (fun c4 => ?_)
  · refine .seq (.keep [] trivial (.region ?_))
    refine .p rfl rfl (.as rfl) ?_
    refine .nil (.code ?_)
    refine .ret _ rfl ?_
    rw [Sl.isNone0 h c4]
    exact ⟨OwnO.nil, .refl _⟩
  · refine .skip (.code (.seq (.keep [(0, _)] ⟨rfl, trivial⟩ (.region ?_))))
    refine .v rfl rfl (.lits rfl rfl (fun _ => by kernel_rfl)) ?_
    rintro _ w5 ⟨rfl, N5⟩
    refine .p rfl rfl (.mv rfl) ?_
    refine .v rfl rfl (.appendLo (t := tByte) (Q := fun _ => False) (B := fun k => w.heap.size ≤ k) (eb := 1) rfl (OwnO.ofOwn (Own.ofNew (us := []) N5 .nil (by decide) rfl rfl) (fun _ => Nat.le_refl _)) (fun k hk => by have := N5.size; show w.heap.size ≤ k; omega) rfl (Sl.holds (tBytes.ext0 h N5.ext) (fun _ _ h => h)) rfl rfl rfl rfl rfl rfl rfl (by simp; omega) (by simp [Lim]; omega) (fun _ h _ => h.elim)) ?_
    rintro v7 w7 ⟨G7, Y7⟩
    refine .p rfl rfl (.as rfl) ?_
    refine .nil (.code ?_)
    refine .ret _ rfl ?_
    exact ⟨G7, N5.ext.then Y7 (fun k hk _ => hk)⟩
theorem Cut_fn {w : World} {v : Value} {b : Bs} (h : tBytes.rep All w v b) : Fn Tryz.prog 59 [v] w (fun r w2 => ∃ v', r = .tuple #[str (cutF b).1, v', i64 (cutF b).2.2] ∧ Gr w2 v' (cutF b).2.1 w.heap.size ∧ Ext (fun _ => False) w w2) := by
  obtain ⟨a, cap, rfl, hcap⟩ := Sl.val h
  obtain ⟨hr1, hr2⟩ := readF_bd b
  have hlim := Sl.lim h
  simp only [Lim] at hlim
  refine Fn.enter (fun w => Tryz.call59 _ w) Tryz.func59 rfl ?_
  refine .seq (.region ?_)
  refine .p rfl rfl (.as rfl) ?_
  refine .p rfl rfl (.as rfl) ?_
  refine .p rfl rfl (.as rfl) ?_
  refine .nil (.code (.seq (.keep [(0, _)] ⟨rfl, trivial⟩ (.region ?_))))
  refine .p rfl rfl (.mv rfl) ?_
  refine .call (first := []) (captured := []) rfl rfl rfl rfl (Read_fn h) ?_
  rintro _ w10 ⟨rfl, X10⟩
  have z10 := X10.size
  refine .p rfl rfl (.mv rfl) ?_
  refine .p rfl rfl (.extract rfl rfl) ?_
  refine .p rfl rfl (.extract rfl rfl) ?_
  refine .p rfl rfl (.extract rfl rfl) ?_
  refine .p rfl rfl (.as rfl) ?_
  refine .p rfl rfl (.as rfl) ?_
  refine .p rfl rfl (.as rfl) ?_
  refine .nil (.code (.seq (.seq (.keep [(7, _), (6, _), (5, _), (0, _)] ⟨rfl, rfl, rfl, rfl, trivial⟩ (.region ?_)))))
  refine .p rfl rfl (.mv rfl) ?_
  refine .p rfl rfl (.ne rfl rfl) ?_
  refine .p rfl rfl (.mv rfl) ?_
  refine .caseD 16 rfl (fun c16 => ?_) (fun c16 => ?_)
  · refine .skip rfl rfl ?_
    refine .skip rfl rfl ?_
    refine .skip rfl rfl ?_
    refine .skip rfl rfl ?_
    refine .skip rfl rfl ?_
    refine .skip rfl rfl ?_
    refine .skip rfl rfl ?_
    refine .p rfl rfl (.pickT rfl rfl) ?_
    refine .nil (.code (.keep [(24, _), (6, _), (5, _), (0, _)] ⟨rfl, rfl, rfl, rfl, trivial⟩ (.condT rfl (.seq (.keep [] trivial (.region ?_))))))
    refine .p rfl rfl (.as rfl) ?_
    refine .p rfl rfl (.as rfl) ?_
    refine .p rfl rfl (.as rfl) ?_
    refine .nil (.code ?_)
    refine .ret _ rfl ?_
    exact ⟨_, by unfold cutF; rw [if_pos (.inl c16)]; rfl, by unfold cutF; rw [if_pos (.inl c16)]; exact OwnO.nil, X10⟩
  · refine .p rfl rfl (.mv rfl) ?_
    refine .p rfl rfl (.mv rfl) ?_
    refine .p rfl rfl (.len rfl rfl) ?_
    refine .p rfl rfl (.mv rfl) ?_
    refine .p rfl rfl (.sub rfl rfl (by omega)) ?_
    refine .p rfl rfl (.convU rfl rfl rfl (by omega)) ?_
    refine .p rfl rfl (.gt rfl rfl) ?_
    refine .p rfl rfl (.pickF rfl rfl) ?_
    refine .nil (.code (.keep [(24, _), (6, _), (5, _), (0, _)] ⟨rfl, rfl, rfl, rfl, trivial⟩ ?_))
    refine .condD rfl (fun c24 => ?_) (fun c24 => ?_)
    · refine .seq (.keep [] trivial (.region ?_))
      refine .p rfl rfl (.as rfl) ?_
      refine .p rfl rfl (.as rfl) ?_
      refine .p rfl rfl (.as rfl) ?_
      refine .nil (.code ?_)
      refine .ret _ rfl ?_
      exact ⟨_, by unfold cutF; rw [if_pos (.inr (by omega))]; rfl, by unfold cutF; rw [if_pos (.inr (by omega))]; exact OwnO.nil, X10⟩
    · obtain ⟨a27, c27, hv27, hc27, R27⟩ := Sl.cutE h (readF b).2.1 b.length (by omega) (by omega)
      rw [List.take_length] at R27
      obtain ⟨a30, c30, hv30, hc30, R30⟩ := Sl.cutE R27 0 (readF b).1 (by omega) (by omega)
      rw [List.drop_zero] at R30
      obtain ⟨a34, c34, hv34, hc34, R34⟩ := Sl.cutE R27 (readF b).1 (b.length - (readF b).2.1) (by omega) (by omega)
      rw [List.take_of_length_le (by simp)] at R34
      refine .skip (.code (.seq (.keep [(6, _), (5, _), (0, _)] ⟨rfl, rfl, rfl, trivial⟩ (.region ?_))))
      refine .p rfl rfl (.mv rfl) ?_
      refine .p rfl rfl (.mv rfl) ?_
      refine .p rfl rfl (.cast (.cutLo (s := 1) rfl rfl rfl rfl (by omega)) (show cutV 1 a cap ((readF b).2.1 : Int).toNat b.length = .slice a27 (b.length - (readF b).2.1) c27 by rw [Int.toNat_natCast]; exact hv27)) ?_
      refine .p rfl rfl (.as rfl) ?_
      refine .nil (.code (.seq (.keep [(0, _), (5, _)] ⟨rfl, rfl, trivial⟩ (.mix (fun _ => False) [7] (by kernel_rfl) (by kernel_rfl) (by kernel_rfl) ?_))))
      refine .p rfl rfl rfl (fun wx hx => .mv rfl) ?_
      refine .p rfl rfl rfl (fun wx hx => .mv rfl) ?_
      refine .p rfl rfl rfl (fun wx hx => .cast (.cutHi (s := 1) rfl rfl rfl rfl (by omega)) (show cutV 1 a27 c27 0 ((readF b).1 : Int).toNat = .slice a30 ((readF b).1 - 0) c30 by rw [Int.toNat_natCast]; exact hv30)) ?_
      refine .p rfl rfl rfl (fun wx hx => .bytesStr rfl (tBytes.ext0 R30 (X10.trans hx)) rfl rfl rfl) ?_
      refine .p rfl rfl rfl (fun wx hx => .mv rfl) ?_
      refine .p rfl rfl rfl (fun wx hx => .mv rfl) ?_
      refine .p rfl rfl rfl (fun wx hx => .cast (.cutLo (s := 1) rfl rfl rfl rfl (by omega)) (show cutV 1 a27 c27 ((readF b).1 : Int).toNat (b.length - (readF b).2.1) = .slice a34 (b.length - (readF b).2.1 - (readF b).1) c34 by rw [Int.toNat_natCast]; exact hv34)) ?_
      refine .call (first := []) (captured := []) rfl rfl rfl rfl rfl (bClone_fn (tBytes.ext0 R34 X10)) (by rintro _ _ ⟨_, hx⟩; exact hx) ?_
      rintro r35 w35 ⟨G35, X35⟩
      refine .p rfl rfl rfl (fun wx hx => .as rfl) ?_
      refine .p rfl rfl rfl (fun wx hx => .as rfl) ?_
      refine .p rfl rfl rfl (fun wx hx => .as rfl) ?_
      refine .nil (.code ?_)
      refine .ret _ rfl ?_
      have e : cutF b = ((b.drop (readF b).2.1).take (readF b).1, (b.drop (readF b).2.1).drop (readF b).1, 0) := by unfold cutF; rw [if_neg (fun h => h.elim c16 (by omega))]
      rw [e]
      exact ⟨_, rfl, Gr.low G35 z10, X10.trans X35⟩
end Go.Proofs.YtpfehnopghffjaaGreatDoor
/-
  A number, a text, a byte taken off bytes; small numbers read back.
-/
namespace Go.Proofs.YtpfehnopghffjaaGreatDoor
open Go
namespace page
abbrev RS := Bs × Bool
def numP (m : Nat) (s : RS) : Nat × RS := if ¬ (readF s.1).2.2 = 0 ∨ m < (readF s.1).1 then (0, (s.1, true)) else ((readF s.1).1, (s.1.drop (readF s.1).2.1, s.2))
def textP (s : RS) : Bs × RS := ((cutF s.1).1, ((cutF s.1).2.1, s.2 || decide (¬ (cutF s.1).2.2 = 0)))
def flagP (s : RS) : UInt8 × RS := match s.1 with
  | [] => (0, ([], true))
  | x :: r => (x, (r, s.2))
theorem numP_le (m : Nat) (s : RS) : (numP m s).1 ≤ m ∧ (numP m s).2.1.length ≤ s.1.length := by
  unfold numP
  split
  · exact ⟨Nat.zero_le _, Nat.le_refl _⟩
  · rename_i h
    refine ⟨by show (readF s.1).1 ≤ m; omega, ?_⟩
    show (s.1.drop _).length ≤ _
    rw [List.length_drop]
    omega
theorem cutF_le (b : Bs) : (cutF b).1.length + (cutF b).2.1.length ≤ b.length := by
  unfold cutF
  split
  · exact Nat.zero_le _
  · rename_i h
    show (List.take _ _).length + (List.drop _ _).length ≤ _
    simp only [List.length_take, List.length_drop]
    omega
theorem textP_le (s : RS) : (textP s).1.length + (textP s).2.1.length ≤ s.1.length := cutF_le s.1
theorem flagP_le (s : RS) : (flagP s).2.1.length ≤ s.1.length := by
  unfold flagP
  split
  · exact Nat.zero_le _
  · rename_i r h
    rw [h]
    exact Nat.le_succ r.length
end page
theorem sumTo_cons (c : UInt8) (b : Bs) : ∀ i, sumTo (c :: b) (i + 1) = c.toNat % 128 + 128 * sumTo b i
  | 0 => by simp [sumTo]
  | i + 1 => by
    rw [sumTo, sumTo_cons c b i, sumTo, List.getD_cons_succ, Nat.pow_succ, Nat.mul_add]
    have : (b.getD i 0).toNat % 128 * (128 ^ i * 128) = 128 * ((b.getD i 0).toNat % 128 * 128 ^ i) := by
      rw [Nat.mul_comm (128 ^ i) 128, Nat.mul_left_comm]
    omega
theorem lead_big {c : UInt8} {b : Bs} (h : 128 ≤ c.toNat) : leadN (c :: b) = leadN b + 1 := by
  unfold leadN
  rw [List.takeWhile_cons, if_pos (by simpa using h)]
  rfl
theorem lead_low {c : UInt8} {b : Bs} (h : c.toNat < 128) : leadN (c :: b) = 0 := by
  unfold leadN
  rw [List.takeWhile_cons, if_neg (by simpa using h)]
  rfl
theorem small_back : ∀ (f n : Nat) (r : Bs), n < 128 ^ (f + 1) → ∃ k, (smallK (f + 1) n).length = k + 1 ∧ leadN (smallK (f + 1) n ++ r) = k ∧ sumTo (smallK (f + 1) n ++ r) (k + 1) = n ∧ (1 ≤ n → ((smallK (f + 1) n ++ r).getD k 0).toNat ≠ 0) ∧ (k ≠ 0 → 1 ≤ n) ∧ ((smallK (f + 1) n ++ r).getD k 0).toNat * 128 ^ k ≤ n := by
  have low : ∀ (f n : Nat) (r : Bs), n ≤ 127 → ∃ k, (smallK (f + 1) n).length = k + 1 ∧ leadN (smallK (f + 1) n ++ r) = k ∧ sumTo (smallK (f + 1) n ++ r) (k + 1) = n ∧ (1 ≤ n → ((smallK (f + 1) n ++ r).getD k 0).toNat ≠ 0) ∧ (k ≠ 0 → 1 ≤ n) ∧ ((smallK (f + 1) n ++ r).getD k 0).toNat * 128 ^ k ≤ n := by
    intro f n r h
    have e : smallK (f + 1) n = [UInt8.ofNat n] := by rw [smallK, if_pos h]
    have e1 : (UInt8.ofNat n).toNat = n := by
      rw [UInt8.toNat_ofNat']
      omega
    refine ⟨0, by rw [e]; rfl, ?_, ?_, ?_, fun h => absurd rfl h, ?_⟩
    · rw [e]; exact lead_low (by omega)
    · rw [e, List.singleton_append, sumTo_cons, e1, sumTo]; omega
    · rw [e]; show 1 ≤ n → (UInt8.ofNat n).toNat ≠ 0; omega
    · rw [e]; show (UInt8.ofNat n).toNat * 1 ≤ n; omega
  intro f
  induction f with
  | zero => intro n r h; exact low 0 n r (by omega)
  | succ f ih =>
    intro n r h
    by_cases hn : n ≤ 127
    · exact low (f + 1) n r hn
    · have e : smallK (f + 1 + 1) n = UInt8.ofNat (n % 128 + 128) :: smallK (f + 1) (n / 128) := by rw [smallK, if_neg hn]
      have e1 : (UInt8.ofNat (n % 128 + 128)).toNat = n % 128 + 128 := by
        rw [UInt8.toNat_ofNat']
        omega
      obtain ⟨k, h1, h2, h3, h4, h5, h6⟩ := ih (n / 128) r (by rw [Nat.pow_succ] at h; omega)
      refine ⟨k + 1, by rw [e, List.length_cons, h1], ?_, ?_, ?_, fun _ => by omega, ?_⟩
      · rw [e, List.cons_append, lead_big (by omega), h2]
      · rw [e, List.cons_append, sumTo_cons, h3, e1]
        omega
      · rw [e, List.cons_append, List.getD_cons_succ]
        intro _
        exact h4 (by omega)
      · rw [e, List.cons_append, List.getD_cons_succ, Nat.pow_succ, ← Nat.mul_assoc]
        have := Nat.mul_le_mul_right 128 h6
        omega
theorem read_small {n : Nat} (r : Bs) (h : n < 18446744073709551616) : readF (smallF n ++ r) = (n, (smallF n).length, 0) := by
  have h10 : (128 : Nat) ^ (9 + 1) = 1180591620717411303424 := by decide
  obtain ⟨k, h1, h2, h3, h4, h5, h6⟩ := small_back 9 n r (by omega)
  have hl := smallF_length n
  have e : smallF n = smallK (9 + 1) n := rfl
  rw [← e] at h1 h2 h3 h4 h6
  have ok : readOk (smallF n ++ r) := by
    unfold readOk
    rw [h2]
    refine ⟨by rw [List.length_append]; omega, by omega, fun hx => ?_, fun hx => h4 (h5 (by omega)) hx.2⟩
    obtain ⟨rfl, h8⟩ := hx
    have h7 : (128 : Nat) ^ 9 = 9223372036854775808 := by decide
    rw [h7] at h6
    omega
  unfold readF
  rw [if_pos ok, h2, h3, h1]
theorem cut_text {s : Bs} (r : Bs) (h : s.length < 18446744073709551616) : cutF (textF s ++ r) = (s, r, 0) := by
  have e : readF (textF s ++ r) = (s.length, (smallF s.length).length, 0) := by unfold textF; rw [List.append_assoc]; exact read_small _ h
  have e2 : (textF s ++ r).drop (smallF s.length).length = s ++ r := by unfold textF; rw [List.append_assoc, List.drop_left]
  unfold cutF
  rw [e, if_neg]
  · simp only
    rw [e2, List.take_left, List.drop_left]
  · simp only [List.length_append, textF]
    rintro (h1 | h1)
    · exact h1 trivial
    · omega
namespace page
theorem numP_small {n m : Nat} (r : Bs) (x : Bool) (h : n < 18446744073709551616) (hm : n ≤ m) : numP m (smallF n ++ r, x) = (n, (r, x)) := by
  unfold numP
  simp only [read_small r h]
  rw [if_neg (fun hx => hx.elim (fun h => h trivial) (by omega)), List.drop_left]
theorem textP_text {s : Bs} (r : Bs) (x : Bool) (h : s.length < 18446744073709551616) : textP (textF s ++ r, x) = (s, (r, x)) := by
  unfold textP
  simp only [cut_text r h]
  simp
theorem flagP_cons (c : UInt8) (r : Bs) (x : Bool) : flagP (c :: r, x) = (c, (r, x)) := rfl
end page
end Go.Proofs.YtpfehnopghffjaaGreatDoor
/-
  Layer 4, data: a directory read out of bytes.
-/
namespace Go.Proofs.YtpfehnopghffjaaGreatDoor
open Go
namespace files
open room
abbrev RS := Bs × Bool
def numS (m : Nat) (s : Bs) : Option (Nat × Bs) := if (page.numP m (s, false)).2.2 = true then none else some ((page.numP m (s, false)).1, (page.numP m (s, false)).2.1)
def cutS (s : Bs) : Option (Bs × Bs) := if ¬ (cutF s).2.2 = 0 then none else some ((cutF s).1, (cutF s).2.1)
def piecesS (B : Nat) : Nat → List Piece → Bs → Option (List Piece × Bs)
  | 0, acc, s => some (acc, s)
  | n + 1, acc, s => (numS B s).bind fun f => (numS 4096 f.2).bind fun c => piecesS B n (acc ++ [⟨(f.1 : Int), (c.1 : Int)⟩]) c.2
def filesS (B : Nat) : Nat → List File → Bs → Option (List File × Bs)
  | 0, acc, s => some (acc, s)
  | n + 1, acc, s => (cutS s).bind fun t => (numS 524288 t.2).bind fun z => (numS 4096 z.2).bind fun k => (piecesS B k.1 [] k.2).bind fun p => filesS B n (acc ++ [⟨t.1, (z.1 : Int), p.1⟩]) p.2
def parseS (B : Nat) (s : Bs) : Option (List File) := (numS 32 s).bind fun n => (filesS B n.1 [] n.2).map (·.1)
theorem piecesS_0 {B : Nat} {acc : List Piece} {s : Bs} : piecesS B 0 acc s = some (acc, s) := rfl
theorem piecesS_s {B n : Nat} {acc : List Piece} {s : Bs} : piecesS B (n + 1) acc s = (numS B s).bind fun f => (numS 4096 f.2).bind fun c => piecesS B n (acc ++ [⟨(f.1 : Int), (c.1 : Int)⟩]) c.2 := rfl
theorem filesS_0 {B : Nat} {acc : List File} {s : Bs} : filesS B 0 acc s = some (acc, s) := rfl
theorem filesS_s {B n : Nat} {acc : List File} {s : Bs} : filesS B (n + 1) acc s = (cutS s).bind fun t => (numS 524288 t.2).bind fun z => (numS 4096 z.2).bind fun k => (piecesS B k.1 [] k.2).bind fun p => filesS B n (acc ++ [⟨t.1, (z.1 : Int), p.1⟩]) p.2 := rfl
/-- a reader's state tells what is still to be read; nothing, if something was wrong -/
def St {β : Type} (R : Option β) (s : RS) (f : Bs → Option β) : Prop := R = if s.2 = true then none else f s.1
theorem St.bad {β : Type} {R : Option β} {s : RS} {f : Bs → Option β} (h : St R s f) (hb : s.2 = true) : R = none := by unfold St at h; rw [h, if_pos hb]
theorem St.ok {β : Type} {R : Option β} {s : RS} {f : Bs → Option β} (h : St R s f) (hb : ¬ s.2 = true) : R = f s.1 := by unfold St at h; rw [h, if_neg hb]
theorem St.to {β : Type} {R : Option β} {s : RS} {f g : Bs → Option β} (h : St R s f) (hg : f s.1 = g s.1) : St R s g := by unfold St at h ⊢; rw [h, hg]
theorem numP_bad {m : Nat} {s : RS} (h : s.2 = true) : (page.numP m s).2.2 = true := by
  unfold page.numP
  split
  · rfl
  · exact h
theorem numP_ok {m : Nat} {b : Bs} {z : Bool} (h : ¬ (page.numP m (b, z)).2.2 = true) : numS m b = some ((page.numP m (b, z)).1, (page.numP m (b, z)).2.1) := by
  cases z with
  | true => exact absurd (numP_bad rfl) h
  | false => unfold numS; rw [if_neg h]
theorem numP_no {m : Nat} {b : Bs} (h : (page.numP m (b, false)).2.2 = true) : numS m b = none := by unfold numS; rw [if_pos h]
theorem St.num {β : Type} {R : Option β} {s : RS} {m : Nat} {g : Nat × Bs → Option β} (h : St R s (fun b => (numS m b).bind g)) : St R (page.numP m s).2 (fun b => g ((page.numP m s).1, b)) := by
  obtain ⟨b, z⟩ := s
  unfold St at h ⊢
  cases z with
  | true => rw [h, if_pos rfl, if_pos (numP_bad rfl)]
  | false =>
    rw [h, if_neg (fun h => by cases h)]
    by_cases hz : (page.numP m (b, false)).2.2 = true
    · rw [if_pos hz]
      show (numS m b).bind g = none
      rw [numP_no hz]
      rfl
    · rw [if_neg hz]
      show (numS m b).bind g = _
      rw [numP_ok hz]
      rfl
theorem St.cutN {β : Type} {R : Option β} {s : RS} {g : Bs × Bs → Option β} (h : St R s (fun b => (cutS b).bind g)) (hc : ¬ (cutF s.1).2.2 = 0) : R = none := by
  unfold St at h
  rw [h]
  split
  · rfl
  · show (cutS s.1).bind g = none
    unfold cutS
    rw [if_pos hc]
    rfl
theorem St.cut {β : Type} {R : Option β} {s : RS} {g : Bs × Bs → Option β} (h : St R s (fun b => (cutS b).bind g)) (hc : (cutF s.1).2.2 = 0) : St R ((cutF s.1).2.1, s.2) (fun b => g ((cutF s.1).1, b)) := by
  unfold St at h ⊢
  rw [h]
  split
  · rfl
  · show (cutS s.1).bind g = _
    unfold cutS
    rw [if_neg (fun h => h hc)]
    rfl
theorem numP_f (m : Nat) (s : Bs) : page.numP m (s, false) = if ¬ (readF s).2.2 = 0 ∨ m < (readF s).1 then (0, (s, true)) else ((readF s).1, (s.drop (readF s).2.1, false)) := rfl
theorem numS_eq (m : Nat) (s : Bs) : numS m s = if ¬ (readF s).2.2 = 0 ∨ m < (readF s).1 then none else some ((readF s).1, s.drop (readF s).2.1) := by
  unfold numS
  rw [numP_f]
  by_cases h : ¬ (readF s).2.2 = 0 ∨ m < (readF s).1
  · rw [if_pos h, if_pos h]; exact if_pos rfl
  · rw [if_neg h, if_neg h]; exact if_neg (fun h => by cases h)
theorem numS_up {s : Bs} {r : Nat × Bs} (h : numS 4095 s = some r) : numS 4096 s = some r ∧ r.1 ≤ 4095 := by
  rw [numS_eq] at h ⊢
  by_cases h1 : ¬ (readF s).2.2 = 0 ∨ 4095 < (readF s).1
  · rw [if_pos h1] at h
    cases h
  · rw [if_neg h1] at h
    cases h
    exact ⟨if_neg (fun h2 => h2.elim (fun h3 => h1 (.inl h3)) (fun h3 => h1 (.inr (by omega)))), by show (readF s).1 ≤ 4095; omega⟩
theorem numS_down {s : Bs} {r : Nat × Bs} (h : numS 4096 s = some r) (hr : r.1 ≤ 4095) : numS 4095 s = some r := by
  rw [numS_eq] at h ⊢
  by_cases h1 : ¬ (readF s).2.2 = 0 ∨ 4096 < (readF s).1
  · rw [if_pos h1] at h
    cases h
  · rw [if_neg h1] at h
    cases h
    have hr : (readF s).1 ≤ 4095 := hr
    exact if_neg (fun h2 => h2.elim (fun h3 => h1 (.inl h3)) (fun h3 => by omega))
theorem piecesS_up : ∀ {n : Nat} {acc : List Piece} {s : Bs} {r : List Piece × Bs}, piecesS 4095 n acc s = some r → piecesS 4096 n acc s = some r
  | 0, _, _, _, h => h
  | n + 1, acc, s, r, h => by
    rw [piecesS_s] at h ⊢
    obtain ⟨f, hf, h⟩ := Option.bind_eq_some_iff.1 h
    obtain ⟨c, hc, h⟩ := Option.bind_eq_some_iff.1 h
    exact Option.bind_eq_some_iff.2 ⟨f, (numS_up hf).1, Option.bind_eq_some_iff.2 ⟨c, hc, piecesS_up h⟩⟩
theorem piecesS_acc {B : Nat} : ∀ {n : Nat} {acc : List Piece} {s : Bs} {r : List Piece × Bs}, piecesS B n acc s = some r → ∀ p ∈ acc, p ∈ r.1
  | 0, acc, s, r, h => by
    rw [piecesS_0] at h
    cases h
    exact fun p hp => hp
  | n + 1, acc, s, r, h => by
    rw [piecesS_s] at h
    obtain ⟨f, hf, h⟩ := Option.bind_eq_some_iff.1 h
    obtain ⟨c, hc, h⟩ := Option.bind_eq_some_iff.1 h
    exact fun p hp => piecesS_acc h p (List.mem_append_left _ hp)
theorem piecesS_down : ∀ {n : Nat} {acc : List Piece} {s : Bs} {r : List Piece × Bs}, piecesS 4096 n acc s = some r → (∀ p ∈ r.1, p.fr ≤ 4095) → piecesS 4095 n acc s = some r
  | 0, _, _, _, h, _ => h
  | n + 1, acc, s, r, h, hr => by
    rw [piecesS_s] at h ⊢
    obtain ⟨f, hf, h⟩ := Option.bind_eq_some_iff.1 h
    obtain ⟨c, hc, h⟩ := Option.bind_eq_some_iff.1 h
    have := hr ⟨(f.1 : Int), (c.1 : Int)⟩ (piecesS_acc h _ (by simp))
    simp only at this
    exact Option.bind_eq_some_iff.2 ⟨f, numS_down hf (by omega), Option.bind_eq_some_iff.2 ⟨c, hc, piecesS_down h hr⟩⟩
theorem filesS_up : ∀ {n : Nat} {acc : List File} {s : Bs} {r : List File × Bs}, filesS 4095 n acc s = some r → filesS 4096 n acc s = some r
  | 0, _, _, _, h => h
  | n + 1, acc, s, r, h => by
    rw [filesS_s] at h ⊢
    obtain ⟨t, ht, h⟩ := Option.bind_eq_some_iff.1 h
    obtain ⟨z, hz, h⟩ := Option.bind_eq_some_iff.1 h
    obtain ⟨k, hk, h⟩ := Option.bind_eq_some_iff.1 h
    obtain ⟨p, hp, h⟩ := Option.bind_eq_some_iff.1 h
    exact Option.bind_eq_some_iff.2 ⟨t, ht, Option.bind_eq_some_iff.2 ⟨z, hz, Option.bind_eq_some_iff.2 ⟨k, hk, Option.bind_eq_some_iff.2 ⟨p, piecesS_up hp, filesS_up h⟩⟩⟩⟩
theorem filesS_acc {B : Nat} : ∀ {n : Nat} {acc : List File} {s : Bs} {r : List File × Bs}, filesS B n acc s = some r → ∀ p ∈ acc, p ∈ r.1
  | 0, acc, s, r, h => by
    rw [filesS_0] at h
    cases h
    exact fun p hp => hp
  | n + 1, acc, s, r, h => by
    rw [filesS_s] at h
    obtain ⟨t, ht, h⟩ := Option.bind_eq_some_iff.1 h
    obtain ⟨z, hz, h⟩ := Option.bind_eq_some_iff.1 h
    obtain ⟨k, hk, h⟩ := Option.bind_eq_some_iff.1 h
    obtain ⟨p, hp, h⟩ := Option.bind_eq_some_iff.1 h
    exact fun p hp => filesS_acc h p (List.mem_append_left _ hp)
theorem filesS_down : ∀ {n : Nat} {acc : List File} {s : Bs} {r : List File × Bs}, filesS 4096 n acc s = some r → (∀ f ∈ r.1, ∀ p ∈ f.ps, p.fr ≤ 4095) → filesS 4095 n acc s = some r
  | 0, _, _, _, h, _ => h
  | n + 1, acc, s, r, h, hr => by
    rw [filesS_s] at h ⊢
    obtain ⟨t, ht, h⟩ := Option.bind_eq_some_iff.1 h
    obtain ⟨z, hz, h⟩ := Option.bind_eq_some_iff.1 h
    obtain ⟨k, hk, h⟩ := Option.bind_eq_some_iff.1 h
    obtain ⟨p, hp, h⟩ := Option.bind_eq_some_iff.1 h
    have h1 := hr ⟨t.1, (z.1 : Int), p.1⟩ (filesS_acc h _ (by simp))
    exact Option.bind_eq_some_iff.2 ⟨t, ht, Option.bind_eq_some_iff.2 ⟨z, hz, Option.bind_eq_some_iff.2 ⟨k, hk, Option.bind_eq_some_iff.2 ⟨p, piecesS_down hp h1, filesS_down h hr⟩⟩⟩⟩
theorem parse_up {s : Bs} {l : List File} (h : parseS 4095 s = some l) : parseS 4096 s = some l := by
  unfold parseS at h ⊢
  obtain ⟨n, hn, h⟩ := Option.bind_eq_some_iff.1 h
  obtain ⟨r, hr, h⟩ := Option.map_eq_some_iff.1 h
  exact Option.bind_eq_some_iff.2 ⟨n, hn, Option.map_eq_some_iff.2 ⟨r, filesS_up hr, h⟩⟩
theorem parse_down {s : Bs} {l : List File} (h : parseS 4096 s = some l) (hl : ∀ f ∈ l, ∀ p ∈ f.ps, p.fr ≤ 4095) : parseS 4095 s = some l := by
  unfold parseS at h ⊢
  obtain ⟨n, hn, h⟩ := Option.bind_eq_some_iff.1 h
  obtain ⟨r, hr, h⟩ := Option.map_eq_some_iff.1 h
  subst h
  exact Option.bind_eq_some_iff.2 ⟨n, hn, Option.map_eq_some_iff.2 ⟨r, filesS_down hr hl, rfl⟩⟩
/-- the inside of a directory's sectors -/
def innerD (b : Bs) : Bs := (List.range 8).flatMap (fun i => ((b.drop (i * 128)).take 128).drop 9)
noncomputable def freadG (B : Nat) (b : Bs) : Dir × Int :=
  if ¬ b.length = 1024 then (⟨0, []⟩, 8) else
  match parseS B (innerD b) with
  | none => (⟨0, []⟩, 8)
  | some fs => if writeF ⟨min (getTo b 8 : Int) 4611686018427387904, fs⟩ = (b, 0) then (⟨min (getTo b 8 : Int) 4611686018427387904, fs⟩, 0) else (⟨0, []⟩, 8)
noncomputable def readD (b : Bs) : Dir × Int := freadG 4096 b
theorem freadG_len {B : Nat} {b : Bs} (h : ¬ b.length = 1024) : freadG B b = (⟨0, []⟩, 8) := by unfold freadG; rw [if_pos h]
theorem freadG_none {B : Nat} {b : Bs} (h : b.length = 1024) (hp : parseS B (innerD b) = none) : freadG B b = (⟨0, []⟩, 8) := by unfold freadG; rw [if_neg (fun h2 => h2 h), hp]
theorem freadG_no {B : Nat} {b : Bs} {fs : List File} (h : b.length = 1024) (hp : parseS B (innerD b) = some fs) (hw : ¬ writeF ⟨min (getTo b 8 : Int) 4611686018427387904, fs⟩ = (b, 0)) : freadG B b = (⟨0, []⟩, 8) := by
  unfold freadG; rw [if_neg (fun h2 => h2 h), hp]; simp only; rw [if_neg hw]
theorem freadG_ok {B : Nat} {b : Bs} {fs : List File} (h : b.length = 1024) (hp : parseS B (innerD b) = some fs) (hw : writeF ⟨min (getTo b 8 : Int) 4611686018427387904, fs⟩ = (b, 0)) : freadG B b = (⟨min (getTo b 8 : Int) 4611686018427387904, fs⟩, 0) := by
  unfold freadG; rw [if_neg (fun h2 => h2 h), hp]; simp only; rw [if_pos hw]
theorem writeF_ok {x : Dir} {b : Bs} (h : writeF x = (b, 0)) : checkD x = 0 ∧ ¬ 952 < (bodyD x.fs).length ∧ b = slotsD x.gen.toNat (bodyD x.fs ++ List.replicate (952 - (bodyD x.fs).length) 0) := by
  by_cases hc : checkD x = 0
  · by_cases hl : 952 < (bodyD x.fs).length
    · rw [writeF_42 hc hl] at h
      exact absurd (congrArg Prod.snd h) (by show ¬ (42 : Int) = 0; decide)
    · rw [writeF_0 hc hl] at h
      exact ⟨hc, hl, (congrArg Prod.fst h).symm⟩
  · rw [writeF_e hc] at h
    exact absurd (congrArg Prod.snd h) hc
theorem readG_eq (b : Bs) : freadG 4095 b = readD b := by
  unfold readD
  by_cases h : b.length = 1024
  · cases hp : parseS 4095 (innerD b) with
    | none =>
      rw [freadG_none h hp]
      cases hq : parseS 4096 (innerD b) with
      | none => rw [freadG_none h hq]
      | some l =>
        by_cases hw : writeF ⟨min (getTo b 8 : Int) 4611686018427387904, l⟩ = (b, 0)
        · exfalso
          obtain ⟨_, hm⟩ := checkD_ok (writeF_ok hw).1
          have := parse_down hq (fun f hf p hp => by have := (piece_ok hm hf hp).2.1; omega)
          rw [hp] at this
          cases this
        · rw [freadG_no h hq hw]
    | some l =>
      have hq := parse_up hp
      by_cases hw : writeF ⟨min (getTo b 8 : Int) 4611686018427387904, l⟩ = (b, 0)
      · rw [freadG_ok h hp hw, freadG_ok h hq hw]
      · rw [freadG_no h hp hw, freadG_no h hq hw]
  · rw [freadG_len h, freadG_len h]
theorem readD_gen {b : Bs} (h : ¬ getTo b 8 < 4611686018427387904) : readD b = (⟨0, []⟩, 8) := by
  unfold readD
  by_cases hl : b.length = 1024
  · cases hp : parseS 4096 (innerD b) with
    | none => exact freadG_none hl hp
    | some l =>
      refine freadG_no hl hp fun hw => ?_
      obtain ⟨_, hm⟩ := checkD_ok (writeF_ok hw).1
      have := hm.1.2
      simp only at this
      omega
  · exact freadG_len hl
end files
end Go.Proofs.YtpfehnopghffjaaGreatDoor
/-
  slices.Chunk at bytes, in pieces of 128 of 1024; slices.Equal at bytes.
-/
namespace Go.Proofs.YtpfehnopghffjaaGreatDoor
open Go
theorem Sl.cutM {α : Type} {t : Ty α} {P : Nat → Prop} {w : World} {xs : List α} {a : Option Addr} {n cap : Nat} (h : (Sl t).rep P w (.slice a n cap) xs) (l k : Nat) (h1 : l ≤ k) (h2 : k ≤ n) : (Sl t).rep P w (cutV t.size a k l k) ((xs.take k).drop l) := by
  obtain ⟨hl, a', cap', hv, hc, h⟩ := h
  cases hv
  have hlen : ((xs.take k).drop l).length = k - l := by simp; omega
  refine ⟨by rw [hlen]; simp only [Lim] at *; omega, (if k = l then a else a.map (·.add (l * t.size))), k - l, by simp [cutV, hlen], by rw [hlen]; omega, ?_⟩
  rcases h with ⟨rfl, rfl⟩ | ⟨b, o, us, rfl, hb, hlt, he, hcs⟩
  · left
    have hk : k = 0 := by simp at h2; exact h2
    subst hk
    simp
  · right
    by_cases hcl : k = l
    · subst hcl
      refine ⟨b, o, [], by simp, hb, hlt, ?_, Cells.nil _ _ _⟩
      have : (xs.take k).drop k = [] := List.eq_nil_of_length_eq_zero (by rw [hlen]; omega)
      rw [this]
      exact .nil
    · refine ⟨b, o + l * t.size, (us.take k).drop l, by simp [hcl, add_none], hb, hlt, (he.take k).drop l, ?_⟩
      have hsz := he.mem (n := t.size) (fun u x h => t.sz h)
      rw [flat_drop l (fun u hu => hsz u (List.mem_of_mem_take hu)), flat_take k hsz]
      exact (hcs.take _).drop _
theorem slicesEqual_fn {w : World} {v u : Value} {l m : Bs} (hl : tBytes.rep All w v l) (hm : tBytes.rep All w u m) : Fn Tryz.prog 60 [v, u] w (fun r w2 => r = .bool (decide (l = m)) ∧ Ext (fun _ => False) w w2) := by
  obtain ⟨a, cap, rfl, hcap⟩ := Sl.val hl
  obtain ⟨a2, cap2, rfl, hcap2⟩ := Sl.val hm
  have hlim := Sl.lim hl
  simp only [Lim] at hlim
  refine Fn.enter (fun w => Tryz.call60 _ w) Tryz.func60 rfl ?_
  refine .seq (.region ?_)
  refine .p rfl rfl (.as rfl) ?_
  refine .nil (.code (.seq (.seq (.keep [(0, _), (1, _)] ⟨rfl, rfl, trivial⟩ (.region ?_)))))
  refine .p rfl rfl (.mv rfl) ?_
  refine .p rfl rfl (.len rfl rfl) ?_
  refine .p rfl rfl (.mv rfl) ?_
  refine .p rfl rfl (.len rfl rfl) ?_
  refine .p rfl rfl (.ne rfl rfl) ?_
  refine .nil (.code (.keep [(10, _), (0, _), (1, _)] ⟨rfl, rfl, rfl, trivial⟩ ?_))
  refine .condD rfl (fun c10 => ?_) (fun c10 => ?_)
  · refine .seq (.keep [] trivial (.region ?_))
    refine .p rfl rfl (.as rfl) ?_
    refine .nil (.code ?_)
    refine .ret _ rfl ?_
    refine ⟨?_, .refl w⟩
    rw [decide_eq_false (fun h => by subst h; exact c10 rfl)]
    rfl
  · have hle : l.length = m.length := by omega
    refine .skip (.code (.seq (.seq (.keep [(0, _), (1, _)] ⟨rfl, rfl, trivial⟩ (.region ?_)))))
    refine .p rfl rfl (.mv rfl) ?_
    refine .p rfl rfl (.len rfl rfl) ?_
    refine .p rfl rfl (.mv rfl) ?_
    refine .nil (.code (.block (.keep [(13, _), (12, _), (0, _), (1, _)] ⟨rfl, rfl, rfl, rfl, trivial⟩ ?_)))
    refine .loop (S := Nat) (fun s => [(0, .slice a l.length cap), (1, .slice a2 m.length cap2), (12, i64 l.length), (13, i64 s)]) (fun s => w) (fun s => s ≤ l.length ∧ ∀ j (h : j < l.length) (h2 : j < m.length), j < s → l[j] = m[j]) (fun s => l.length - s) 0 ⟨rfl, rfl, rfl, rfl, trivial⟩ rfl ⟨Nat.zero_le _, fun j _ _ h => absurd h (Nat.not_lt_zero _)⟩ ?_
    rintro i J ⟨hi', hs⟩ again
    refine .seq (.region ?_)
    refine .p rfl rfl (.lt rfl rfl) ?_
    refine .nil (.code (.seq ?_))
    refine .condD rfl (fun c14 => ?_) (fun c14 => ?_)
    · have hi : i < l.length := by omega
      obtain ⟨b1, o1, e1, _, hc1⟩ := Sl.byteAt hl hi
      obtain ⟨b2, o2, e2, _, hc2⟩ := Sl.byteAt hm (k := i) (by omega)
      subst e1
      subst e2
      refine .skip (.code (.seq (.block (.seq (.keep [(0, _), (1, _), (12, _), (13, _)] ⟨rfl, rfl, rfl, rfl, trivial⟩ (.region ?_))))))
      refine .p rfl rfl (.mv rfl) ?_
      refine .p rfl rfl (.as rfl) ?_
      refine .nil (.code (.seq (.keep [(5, _), (0, _), (1, _), (12, _), (13, _)] ⟨rfl, rfl, rfl, rfl, rfl, trivial⟩ (.draws (by kernel_rfl) (by kernel_rfl) ?_))))
      refine .p rfl rfl (.mv rfl) ?_
      refine .p rfl rfl (.mv rfl) ?_
      refine .p rfl rfl (.indexAddr1 rfl rfl rfl rfl (by omega)) ?_
      refine .p rfl rfl (.load rfl rfl rfl hc1) ?_
      refine .p rfl rfl (.mv rfl) ?_
      refine .p rfl rfl (.mv rfl) ?_
      refine .p rfl rfl (.indexAddr1 rfl rfl rfl rfl (by omega)) ?_
      refine .p rfl rfl (.load rfl rfl rfl hc2) ?_
      refine .p rfl rfl (.ne rfl rfl) ?_
      refine .nil (.code (.keep [(24, _), (0, _), (1, _), (12, _), (13, _)] ⟨rfl, rfl, rfl, rfl, rfl, trivial⟩ ?_))
      refine .condD rfl (fun c24 => ?_) (fun c24 => ?_)
      · refine .seq (.keep [] trivial (.region ?_))
        refine .p rfl rfl (.as rfl) ?_
        refine .nil (.code ?_)
        refine .ret _ rfl ?_
        refine ⟨?_, .refl w⟩
        rw [decide_eq_false (fun h => by subst h; exact c24 rfl)]
        rfl
      · refine .skip (.blk (.code (.keep [(0, _), (1, _), (12, _), (13, _)] ⟨rfl, rfl, rfl, rfl, trivial⟩ (.region ?_))))
        refine .p rfl rfl (.add rfl rfl (by omega)) ?_
        refine .p rfl rfl (.mv rfl) ?_
        refine .nil ?_
        refine (again (i + 1) ⟨by omega, fun j hj hj2 h1 => ?_⟩ (by omega)).of ⟨rfl, rfl, rfl, rfl, trivial⟩
        rcases Nat.lt_or_ge j i with h2 | h2
        · exact hs j hj hj2 h2
        · obtain rfl : j = i := by omega
          have h : ((l[j].toNat : Nat) : Int) = ((m[j].toNat : Nat) : Int) := Decidable.not_not.1 c24
          exact UInt8.toNat_inj.1 (by omega)
    · obtain rfl : i = l.length := by omega
      refine .exit rfl (.code (.seq (.keep [] trivial (.region ?_))))
      refine .p rfl rfl (.as rfl) ?_
      refine .nil (.code ?_)
      refine .ret _ rfl ?_
      refine ⟨?_, .refl w⟩
      rw [decide_eq_true (List.ext_getElem hle (fun j h1 h2 => hs j h1 h2 h1))]
      rfl
theorem Chunk_fn {w : World} {v : Value} (hv : v.cells = #[v]) (h1 : v.oneCell' = true) : Fn Tryz.prog 55 [v, i64 128] w (fun r w2 => r = .func (.func 116) #[] #[.pointer (some ⟨w.heap.size, 0, none⟩), .pointer (some ⟨w.heap.size + 1, 0, none⟩)] ∧ Blk w2 w.heap.size 25 [v] ∧ Blk w2 (w.heap.size + 1) 3 [i64 128] ∧ w2.heap.size = w.heap.size + 2 ∧ Ext (fun _ => False) w w2) := by
  refine Fn.enter (fun w => Tryz.call55 _ w) Tryz.func55 rfl ?_
  refine .seq (.region ?_)
  refine .v rfl rfl (.box rfl) ?_
  rintro _ w2 ⟨rfl, N2⟩
  refine .v rfl rfl (.box rfl) ?_
  rintro _ w3 ⟨rfl, N3⟩
  have z2 := N2.size
  have B3 : Blk w3 w2.heap.size 3 [i64 128] := N3.blk
  have z3 := N3.size
  have B2 : Blk w2 w.heap.size 25 [v] := by have h := N2.blk; rw [hv] at h; exact h
  refine .p rfl rfl (.as rfl) ?_
  refine .nil (.code (.seq (.seq (.keep [(3, _), (2, _)] ⟨rfl, rfl, trivial⟩ (.region ?_)))))
  refine .p rfl rfl (.load rfl rfl rfl (B3.cell 0)) ?_
  refine .p rfl rfl (.no (.lt rfl rfl) (by decide)) ?_
  refine .nil (.code (.keep [(6, _), (3, _), (2, _)] ⟨rfl, rfl, rfl, trivial⟩ (.condF rfl (.skip (.code (.seq (.keep [(3, _), (2, _)] ⟨rfl, rfl, trivial⟩ (.region ?_))))))))
  refine .p rfl rfl (.makeFunc rfl rfl) ?_
  refine .p rfl rfl (.as rfl) ?_
  refine .nil (.code ?_)
  refine .ret _ rfl ?_
  refine ⟨by rw [z2]; rfl, B2.ext N3.ext (fun x => x), by rw [← z2]; exact B3, by omega, N2.ext.trans N3.ext⟩
theorem Chunk1_fn {w : World} {cb cn D : Nat} {fn : FuncId} {tmps : Array Value} {ps : Array Tmp} {assign body : Code} {J : Nat → World → Prop} {a : Option Addr} {cap : Nat} (hcap : 1024 ≤ cap) (hJ : ∀ i W, J i W → Blk W cb 25 [.slice a 1024 cap] ∧ Blk W cn 3 [i64 128]) (hy : ∀ i W, i < 8 → Between fn tmps ps assign body D (J i) W → YieldAt Fence.wide 0 Tryz.prog (D + 1) #[cutV 1 a (i * 128 + 128) (i * 128) (i * 128 + 128)] W (fun en w3 => en = .returned (.bool true) ∧ Between fn tmps ps assign body D (J (i + 1)) w3)) (h0 : Between fn tmps ps assign body D (J 0) w) : Fn Tryz.prog 116 [.func (.yield (D + 1)) #[] #[], .pointer (some ⟨cb, 0, none⟩), .pointer (some ⟨cn, 0, none⟩)] w (fun r w2 => Between fn tmps ps assign body D (J 8) w2) := by
  refine Fn.enter (fun w => Tryz.call116 _ w) Tryz.func116 rfl ?_
  refine .seq (.region ?_)
  refine .p rfl rfl (.as rfl) ?_
  refine .nil (.code (.block ?_))
  refine .loop (S := Nat × World) (fun s => [(0, .func (.yield (D + 1)) #[] #[]), (1, .pointer (some ⟨cb, 0, none⟩)), (2, .pointer (some ⟨cn, 0, none⟩)), (4, i64 ((s.1 * 128 : Nat) : Int))]) (fun s => s.2) (fun s => s.1 ≤ 8 ∧ Between fn tmps ps assign body D (J s.1) s.2) (fun s => 8 - s.1) (0, w) ⟨rfl, rfl, rfl, rfl, trivial⟩ rfl ⟨Nat.zero_le _, h0⟩ ?_
  rintro ⟨i, wi⟩ J' ⟨hi', hbt⟩ again
  simp only at hi' hbt
  have B : Blk wi cb 25 [.slice a 1024 cap] := hbt.blk (fun W h => (hJ _ W h).1)
  have Bn : Blk wi cn 3 [i64 128] := hbt.blk (fun W h => (hJ _ W h).2)
  change G _ [(0, .func (.yield (D + 1)) #[] #[]), (1, .pointer (some ⟨cb, 0, none⟩)), (2, .pointer (some ⟨cn, 0, none⟩)), (4, i64 ((i * 128 : Nat) : Int))] _ _ wi
  refine .seq (.seq (.region ?_))
  refine .p rfl rfl (.mv rfl) ?_
  refine .p rfl rfl (.load rfl rfl rfl (B.cell 0)) ?_
  refine .p rfl rfl (.len rfl rfl) ?_
  refine .p rfl rfl (.lt rfl rfl) ?_
  refine .nil (.code (.keep [(9, _), (0, _), (1, _), (2, _), (4, _)] ⟨rfl, rfl, rfl, rfl, rfl, trivial⟩ ?_))
  refine .condD rfl (fun c9 => ?_) (fun c9 => ?_)
  · have hi : i < 8 := by omega
    refine .skip (.code (.seq (.block (.seq (.keep [(0, _), (1, _), (2, _), (4, _)] ⟨rfl, rfl, rfl, rfl, trivial⟩ (.draws (by kernel_rfl) (by kernel_rfl) ?_))))))
    refine .p rfl rfl (.load rfl rfl rfl (Bn.cell 0)) ?_
    refine .p rfl rfl (.load rfl rfl rfl (B.cell 0)) ?_
    refine .p rfl rfl (.mv rfl) ?_
    refine .p rfl rfl (.cutLo (s := 1) rfl rfl rfl rfl (by omega)) ?_
    refine .p rfl rfl (.len rfl rfl) ?_
    refine .p rfl rfl (.cast (.min2 rfl rfl) (show _ = i64 128 by congr 1; omega)) ?_
    refine .p rfl rfl (.as rfl) ?_
    refine .nil (.code (.seq (.keep [(5, _), (0, _), (1, _), (2, _), (4, _)] ⟨rfl, rfl, rfl, rfl, rfl, trivial⟩ (.regionI ?_))))
    refine .p rfl rfl (.mv rfl) ?_
    refine .p rfl rfl (.load rfl rfl rfl (B.cell 0)) ?_
    refine .p rfl rfl (.mv rfl) ?_
    refine .p rfl rfl (.mv rfl) ?_
    refine .p rfl rfl (.mv rfl) ?_
    refine .p rfl rfl (.add rfl rfl (by omega)) ?_
    refine .p rfl rfl (.mv rfl) ?_
    refine .p rfl rfl (.mv rfl) ?_
    refine .p rfl rfl (.add rfl rfl (by omega)) ?_
    refine .p rfl rfl (.cast (.cut3 (s := 1) rfl rfl rfl rfl rfl rfl (by omega)) (show cutV 1 a (((i * 128 : Nat) : Int) + 128).toNat ((i * 128 : Nat) : Int).toNat (((i * 128 : Nat) : Int) + 128).toNat = cutV 1 a (i * 128 + 128) (i * 128) (i * 128 + 128) by rw [show (((i * 128 : Nat) : Int) + 128).toNat = i * 128 + 128 by omega, Int.toNat_natCast])) ?_
    refine .yield (Post := fun b w2 => b = true ∧ Between fn tmps ps assign body D (J (i + 1)) w2) rfl rfl rfl rfl (fun w' hs => ?y) ?_
    case y =>
      obtain ⟨fn', tm', as', bo', h1, h2⟩ := hy i w' hi (hbt.same hs)
      exact ⟨fn', tm', as', bo', h1, h2.mono (fun en w3 h => ⟨true, w3, .refl _, h.1, rfl, h.2⟩)⟩
    rintro _ w29 ⟨rfl, hb29⟩
    have Bn29 : Blk w29 cn 3 [i64 128] := hb29.blk (fun W h => (hJ _ W h).2)
    refine .p rfl rfl (.not rfl) ?_
    refine .nil (.code (.keep [(30, _), (0, _), (1, _), (2, _), (4, _)] ⟨rfl, rfl, rfl, rfl, rfl, trivial⟩ (.condF rfl (.skip (.blk (.code (.keep [(0, _), (1, _), (2, _), (4, _)] ⟨rfl, rfl, rfl, rfl, trivial⟩ (.region ?_))))))))
    refine .p rfl rfl (.mv rfl) ?_
    refine .p rfl rfl (.load rfl rfl rfl (Bn29.cell 0)) ?_
    refine .p rfl rfl (.add rfl rfl (by omega)) ?_
    refine .p rfl rfl (.as rfl) ?_
    refine .nil ?_
    refine (again (i + 1, w29) ⟨by show i + 1 ≤ 8; omega, hb29⟩ (by show 8 - (i + 1) < 8 - i; omega)).of ⟨rfl, rfl, rfl, ?_, trivial⟩
    show _ = some (i64 (((i + 1) * 128 : Nat) : Int))
    rw [show (((i + 1) * 128 : Nat) : Int) = ((i * 128 : Nat) : Int) + 128 by omega]
    rfl
  · obtain rfl : i = 8 := by omega
    refine .exit rfl ?_
    refine .fin [] rfl ?_
    exact hbt
end Go.Proofs.YtpfehnopghffjaaGreatDoor
