
/-
  bits.Read, bits.Cut: small numbers and texts, read.
-/
import Derived.Test.YthkgadhamecnlaaSmall
set_option linter.unusedVariables false
set_option linter.unusedSimpArgs false
set_option maxRecDepth 20000
namespace Go.Proofs.Ythkgadhamecnlaa
open Go
def sumTo (b : Bs) : Nat → Nat
  | 0 => 0
  | i + 1 => sumTo b i + (b.getD i 0).toNat % 128 * 128 ^ i
def leadN (b : Bs) : Nat := (b.takeWhile (fun x => decide (128 ≤ x.toNat))).length
def readOk (b : Bs) : Prop := leadN b < b.length ∧ leadN b ≤ 9 ∧ ¬ (leadN b = 9 ∧ 1 < (b.getD (leadN b) 0).toNat) ∧ ¬ (0 < leadN b ∧ (b.getD (leadN b) 0).toNat = 0)
instance (b : Bs) : Decidable (readOk b) := by unfold readOk; infer_instance
def readF (b : Bs) : Nat × Nat × Int := if readOk b then (sumTo b (leadN b + 1), leadN b + 1, 0) else (0, 0, 8)
theorem sumTo_lt (b : Bs) : ∀ i, sumTo b i < 128 ^ i
  | 0 => by simp [sumTo]
  | i + 1 => by
    have h := sumTo_lt b i
    rw [sumTo, Nat.pow_succ]
    have h1 : (b.getD i 0).toNat % 128 ≤ 127 := by omega
    have h2 : (b.getD i 0).toNat % 128 * 128 ^ i ≤ 127 * 128 ^ i := Nat.mul_le_mul_right _ h1
    omega
theorem pow7 (i : Nat) : 2 ^ (7 * i) = 128 ^ i := by rw [Nat.pow_mul]
theorem sum_or (b : Bs) (i : Nat) : sumTo b i ||| (b.getD i 0).toNat % 128 * 2 ^ (7 * i) = sumTo b (i + 1) := by
  have h := Nat.two_pow_add_eq_or_of_lt (i := 7 * i) (by rw [pow7]; exact sumTo_lt b i) ((b.getD i 0).toNat % 128)
  rw [Nat.or_comm, Nat.mul_comm, ← h, sumTo, pow7, Nat.mul_comm, Nat.add_comm]
theorem and127 (x : UInt8) : (x &&& 127).toNat = x.toNat % 128 := by
  rw [UInt8.toNat_and]
  exact Nat.and_two_pow_sub_one_eq_mod x.toNat 7
theorem sum_bd (b : Bs) {i : Nat} (hi : i ≤ 9) (h : i = 9 → (b.getD i 0).toNat ≤ 1) : (b.getD i 0).toNat % 128 * 2 ^ (7 * i) < 18446744073709551616 ∧ sumTo b (i + 1) < 18446744073709551616 := by
  have h1 := sumTo_lt b i
  rw [pow7, sumTo]
  rcases Nat.lt_or_ge i 9 with h9 | h9
  · have h3 : (128 : Nat) ^ i ≤ 128 ^ 8 := Nat.pow_le_pow_right (by decide) (by omega)
    have h2 : (b.getD i 0).toNat % 128 * 128 ^ i ≤ 127 * 128 ^ i := Nat.mul_le_mul_right _ (by omega)
    have h4 : (128 : Nat) ^ 8 = 72057594037927936 := by decide
    omega
  · obtain rfl : i = 9 := by omega
    have h2 := h rfl
    have h3 : (b.getD 9 0).toNat % 128 * 128 ^ 9 ≤ 1 * 128 ^ 9 := Nat.mul_le_mul_right _ (by omega)
    have h4 : (128 : Nat) ^ 9 = 9223372036854775808 := by decide
    omega
theorem lead_le : ∀ b : Bs, leadN b ≤ b.length
  | [] => Nat.le_refl _
  | x :: b => by
    unfold leadN
    rw [List.takeWhile_cons]
    split
    · have := lead_le b
      unfold leadN at this
      simp
      omega
    · simp
theorem lead_ge : ∀ (b : Bs) (i : Nat), i ≤ b.length → (∀ j (h : j < b.length), j < i → 128 ≤ b[j].toNat) → i ≤ leadN b
  | _, 0, _, _ => Nat.zero_le _
  | [], i + 1, h, _ => absurd h (Nat.not_succ_le_zero _)
  | x :: b, i + 1, h, ha => by
    have h0 := ha 0 (Nat.succ_pos _) (Nat.succ_pos _)
    have ih := lead_ge b i (by simpa using h) (fun j hj hlt => ha (j + 1) (by simpa using hj) (by omega))
    unfold leadN at *
    rw [List.takeWhile_cons, if_pos (by simpa using h0)]
    simp
    omega
theorem lead_at : ∀ (b : Bs) (h : leadN b < b.length), b[leadN b].toNat < 128
  | [], h => absurd h (Nat.not_lt_zero _)
  | x :: b, h => by
    by_cases hx : 128 ≤ x.toNat
    · have e : leadN (x :: b) = leadN b + 1 := by unfold leadN; rw [List.takeWhile_cons, if_pos (by simpa using hx)]; rfl
      have h' : leadN b < b.length := by rw [e] at h; simpa using h
      have := lead_at b h'
      simp only [e, List.getElem_cons_succ]
      exact this
    · have e : leadN (x :: b) = 0 := by unfold leadN; rw [List.takeWhile_cons, if_neg (by simpa using hx)]; rfl
      simp only [e, List.getElem_cons_zero]
      omega
theorem lead_eq {b : Bs} {i : Nat} (h : i < b.length) (ha : ∀ j (h : j < b.length), j < i → 128 ≤ b[j].toNat) (hi : b[i].toNat < 128) : leadN b = i := by
  have h1 := lead_ge b i (by omega) ha
  rcases Nat.lt_or_ge i (leadN b) with h2 | h2
  · exfalso
    have h3 : ∀ (b : Bs) (i : Nat) (hi : i < b.length), i < leadN b → 128 ≤ b[i].toNat := by
      intro b
      induction b with
      | nil => intro i hi; exact absurd hi (Nat.not_lt_zero _)
      | cons x b ih =>
        intro i hi hlt
        by_cases hx : 128 ≤ x.toNat
        · have e : leadN (x :: b) = leadN b + 1 := by unfold leadN; rw [List.takeWhile_cons, if_pos (by simpa using hx)]; rfl
          cases i with
          | zero => exact hx
          | succ i => exact ih i (by simpa using hi) (by omega)
        · have e : leadN (x :: b) = 0 := by unfold leadN; rw [List.takeWhile_cons, if_neg (by simpa using hx)]; rfl
          omega
    have := h3 b i h h2
    omega
  · omega
theorem getD_at {b : Bs} {i : Nat} (h : i < b.length) : b.getD i 0 = b[i] := by rw [List.getD_eq_getElem?_getD, List.getElem?_eq_getElem h]; rfl
theorem read_good {b : Bs} {i : Nat} (h : i < b.length) (h9 : i ≤ 9) (ha : ∀ j (h : j < b.length), j < i → 128 ≤ b[j].toNat) (hi : b[i].toNat < 128) (h1 : i = 9 → b[i].toNat ≤ 1) (h0 : 0 < i → b[i].toNat ≠ 0) : readF b = (sumTo b (i + 1), i + 1, 0) := by
  have e := lead_eq h ha hi
  unfold readF
  rw [if_pos, e]
  unfold readOk
  rw [e, getD_at h]
  exact ⟨h, h9, fun hx => by have := h1 hx.1; omega, fun hx => h0 hx.1 hx.2⟩
theorem read_bad0 {b : Bs} (ha : ∀ j (h : j < b.length), 128 ≤ b[j].toNat) : readF b = (0, 0, 8) := by
  have e := lead_ge b b.length (Nat.le_refl _) (fun j hj _ => ha j hj)
  unfold readF
  rw [if_neg]
  rintro ⟨h, _⟩
  omega
theorem read_bad9 {b : Bs} (h : 9 < b.length) (ha : ∀ j (h : j < b.length), j < 9 → 128 ≤ b[j].toNat) (h1 : 1 < b[9].toNat) : readF b = (0, 0, 8) := by
  have e := lead_ge b 9 (by omega) ha
  unfold readF
  rw [if_neg]
  rintro ⟨_, h9, hx, _⟩
  have e9 : leadN b = 9 := by omega
  rw [e9, getD_at h] at hx
  exact hx ⟨rfl, h1⟩
theorem read_badz {b : Bs} {i : Nat} (h : i < b.length) (ha : ∀ j (h : j < b.length), j < i → 128 ≤ b[j].toNat) (h0 : 0 < i) (h1 : b[i].toNat = 0) : readF b = (0, 0, 8) := by
  have e := lead_eq h ha (by omega)
  unfold readF
  rw [if_neg]
  rintro ⟨_, _, _, hx⟩
  rw [e, getD_at h] at hx
  exact hx ⟨h0, h1⟩
theorem Sl.isNone0 {α : Type} {t : Ty α} {P : Nat → Prop} {w : World} {a : Option Addr} {n cap : Nat} {xs : List α} (h : (Sl t).rep P w (.slice a n cap) xs) (ha : a.isNone = true) : xs = [] := by
  obtain ⟨_, a', cap', e, _, ⟨rfl, _⟩ | ⟨b, o, us, rfl, _⟩⟩ := h
  · rfl
  · cases e; cases ha
def cutF (b : Bs) : Bs × Bs × Int := if ¬ (readF b).2.2 = 0 ∨ b.length - (readF b).2.1 < (readF b).1 then ([], [], 8) else ((b.drop (readF b).2.1).take (readF b).1, (b.drop (readF b).2.1).drop (readF b).1, 0)
theorem readF_bd (b : Bs) : (readF b).1 < 18446744073709551616 ∧ (readF b).2.1 ≤ b.length := by
  unfold readF
  split
  · rename_i h
    obtain ⟨h1, h2, h3, h4⟩ := h
    exact ⟨(sum_bd b h2 (fun e => by omega)).2, by show leadN b + 1 ≤ _; omega⟩
  · exact ⟨by decide, Nat.zero_le _⟩
theorem Read_fn {w : World} {v : Value} {b : Bs} (h : tBytes.rep All w v b) : Fn Try.prog 75 [v] w (fun r w2 => r = .tuple #[.int .u64 ((readF b).1 : Nat), i64 ((readF b).2.1 : Nat), i64 (readF b).2.2] ∧ Ext (fun _ => False) w w2) := by
  obtain ⟨a, cap, rfl, hcap⟩ := Sl.val h
  have hlim := Sl.lim h
  simp only [Lim] at hlim
  refine Fn.enter (fun w => Try.call75 _ w) Try.func75 rfl ?_
  refine .seq (.region ?_)
  refine .p rfl rfl (.as rfl) ?_
  refine .p rfl rfl (.as rfl) ?_
  refine .p rfl rfl (.as rfl) ?_
  refine .nil (.code (.seq (.keep [(0, _)] ⟨rfl, trivial⟩ (.region ?_))))
  refine .p rfl rfl (.as rfl) ?_
  refine .nil (.code (.seq (.seq (.region ?_))))
  refine .p rfl rfl (.mv rfl) ?_
  refine .p rfl rfl (.len rfl rfl) ?_
  refine .p rfl rfl (.mv rfl) ?_
  refine .nil (.code (.block (.keep [(10, _), (9, _), (8, _), (5, _)] ⟨rfl, rfl, rfl, rfl, trivial⟩ ?_)))
  refine .loop (S := Nat) (fun s => [(5, .int .u64 (sumTo b s : Nat)), (8, .slice a b.length cap), (9, i64 b.length), (10, i64 s)]) (fun s => w) (fun s => s ≤ b.length ∧ s ≤ 9 ∧ ∀ j (h : j < b.length), j < s → 128 ≤ b[j].toNat) (fun s => b.length - s) 0 ⟨rfl, rfl, rfl, rfl, trivial⟩ rfl ⟨Nat.zero_le _, Nat.zero_le _, fun j _ h => absurd h (Nat.not_lt_zero _)⟩ ?_
  rintro i J ⟨hi', hi9, ha⟩ again
  refine .seq (.region ?_)
  refine .p rfl rfl (.lt rfl rfl) ?_
  refine .nil (.code (.seq ?_))
  refine .condD rfl (fun c11 => ?_) (fun c11 => ?_)
  · have hi : i < b.length := by omega
    obtain ⟨b0, o0, rfl, _, hc⟩ := Sl.byteAt h hi
    have hs0 : sumTo b i < 18446744073709551616 := by
      have h1 := sumTo_lt b i
      have h2 : (128 : Nat) ^ i ≤ 128 ^ 9 := Nat.pow_le_pow_right (by decide) hi9
      have h4 : (128 : Nat) ^ 9 = 9223372036854775808 := by decide
      omega
    have pow_cast : (((b.getD i 0).toNat % 128 * 2 ^ (7 * i) : Nat) : Int) = (((b.getD i 0).toNat % 128 : Nat) : Int) * 2 ^ (7 * i) := by simp
    refine .skip (.code (.seq (.block (.seq (.keep [(5, _), (8, _), (9, _), (10, _)] ⟨rfl, rfl, rfl, rfl, trivial⟩ (.region ?_))))))
    refine .p rfl rfl (.mv rfl) ?_
    refine .p rfl rfl (.indexAddr1 rfl rfl rfl rfl (by omega)) ?_
    refine .p rfl rfl (.load rfl rfl rfl hc) ?_
    refine .p rfl rfl (.as rfl) ?_
    refine .p rfl rfl (.as rfl) ?_
    refine .nil (.code (.seq (.seq (.keep [(7, _), (6, _), (5, _), (8, _), (9, _), (10, _)] ⟨rfl, rfl, rfl, rfl, rfl, rfl, trivial⟩ (.region ?_)))))
    refine .p rfl rfl (.mv rfl) ?_
    refine .p rfl rfl (.eq rfl rfl) ?_
    refine .p rfl rfl (.mv rfl) ?_
    refine .caseD 17 rfl (fun c17 => ?_) (fun c17 => ?_)
    · refine .p rfl rfl (.mv rfl) ?_
      refine .p rfl rfl (.gt rfl rfl) ?_
      refine .p rfl rfl (.pickT rfl rfl) ?_
      refine .nil (.code (.keep [(20, _), (7, _), (6, _), (5, _), (8, _), (9, _), (10, _)] ⟨rfl, rfl, rfl, rfl, rfl, rfl, rfl, trivial⟩ ?_))
      refine .condD rfl (fun c20 => ?_) (fun c20 => ?_)
      · refine .exit rfl (.code (.seq (.keep [] trivial (.region ?_))))
        refine .p rfl rfl (.as rfl) ?_
        refine .p rfl rfl (.as rfl) ?_
        refine .p rfl rfl (.as rfl) ?_
        refine .nil (.code ?_)
        refine .ret _ rfl ?_
        have hi9 : i = 9 := by omega
        subst hi9
        rw [read_bad9 hi ha (by omega)]
        exact ⟨rfl, .refl _⟩
      · have hsb := sum_bd b hi9 (fun e => by rw [getD_at hi]; omega)
        refine .skip (.code (.seq (.keep [(7, _), (6, _), (5, _), (8, _), (9, _), (10, _)] ⟨rfl, rfl, rfl, rfl, rfl, rfl, trivial⟩ (.region ?_))))
        refine .p rfl rfl (.mv rfl) ?_
        refine .p rfl rfl (.mv rfl) ?_
        refine .p rfl rfl (.and8 (b := 127) rfl rfl) ?_
        refine .p rfl rfl (.cast (.conv8_U rfl rfl rfl) (show _ = Value.int .u64 (((b.getD i 0).toNat % 128 : Nat) : Int) by rw [and127, getD_at hi])) ?_
        refine .p rfl rfl (.mv rfl) ?_
        refine .p rfl rfl (.cast (.mul rfl rfl (by omega)) (show _ = i64 ((7 * i : Nat) : Int) from congrArg i64 (by omega))) ?_
        refine .p rfl rfl (.cast (.shlU (7 * i) rfl rfl (by omega) (by rw [← pow_cast]; omega)) (show _ = Value.int .u64 (((b.getD i 0).toNat % 128 * 2 ^ (7 * i) : Nat) : Int) by rw [pow_cast])) ?_
        refine .p rfl rfl (.cast (.orU (p := sumTo b i) (q := (b.getD i 0).toNat % 128 * 2 ^ (7 * i)) rfl rfl hs0 (by omega)) (show _ = Value.int .u64 ((sumTo b (i + 1) : Nat) : Int) by rw [sum_or])) ?_
        refine .p rfl rfl (.as rfl) ?_
        refine .nil (.code (.seq (.keep [(5, _), (7, _), (6, _), (8, _), (9, _), (10, _)] ⟨rfl, rfl, rfl, rfl, rfl, rfl, trivial⟩ (.region ?_))))
        refine .p rfl rfl (.mv rfl) ?_
        refine .p rfl rfl (.lt rfl rfl) ?_
        refine .nil (.code (.keep [(30, _), (5, _), (7, _), (6, _), (8, _), (9, _), (10, _)] ⟨rfl, rfl, rfl, rfl, rfl, rfl, rfl, trivial⟩ ?_))
        refine .condD rfl (fun c30 => ?_) (fun c30 => ?_)
        · have hle := lead_eq hi ha (by omega)
          refine .seq (.seq (.keep [(5, _), (7, _), (6, _)] ⟨rfl, rfl, rfl, trivial⟩ (.region ?_)))
          refine .p rfl rfl (.mv rfl) ?_
          refine .p rfl rfl (.eq rfl rfl) ?_
          refine .p rfl rfl (.mv rfl) ?_
          refine .caseD 33 rfl (fun c33 => ?_) (fun c33 => ?_)
          · refine .p rfl rfl (.mv rfl) ?_
            refine .p rfl rfl (.gt rfl rfl) ?_
            refine .p rfl rfl (.pickT rfl rfl) ?_
            refine .nil (.code (.keep [(36, _), (5, _), (6, _)] ⟨rfl, rfl, rfl, trivial⟩ ?_))
            refine .condD rfl (fun c36 => ?_) (fun c36 => ?_)
            · refine .exit rfl (.code (.seq (.keep [] trivial (.region ?_))))
              refine .p rfl rfl (.as rfl) ?_
              refine .p rfl rfl (.as rfl) ?_
              refine .p rfl rfl (.as rfl) ?_
              refine .nil (.code ?_)
              refine .ret _ rfl ?_
              rw [read_badz hi ha (by omega) (by omega)]
              exact ⟨rfl, .refl _⟩
            · refine .skip (.code (.seq (.keep [(5, _), (6, _)] ⟨rfl, rfl, trivial⟩ (.region ?_))))
              refine .p rfl rfl (.mv rfl) ?_
              refine .p rfl rfl (.mv rfl) ?_
              refine .p rfl rfl (.add rfl rfl (by omega)) ?_
              refine .p rfl rfl (.as rfl) ?_
              refine .p rfl rfl (.as rfl) ?_
              refine .p rfl rfl (.as rfl) ?_
              refine .nil (.code ?_)
              refine .ret _ rfl ?_
              rw [read_good hi hi9 ha (by omega) (by omega) (by omega)]
              exact ⟨rfl, .refl _⟩
          · refine .skip rfl rfl ?_
            refine .skip rfl rfl ?_
            refine .p rfl rfl (.pickF rfl rfl) ?_
            refine .nil (.code (.keep [(36, _), (5, _), (6, _)] ⟨rfl, rfl, rfl, trivial⟩ (.condF rfl (.skip (.code (.seq (.keep [(5, _), (6, _)] ⟨rfl, rfl, trivial⟩ (.region ?_))))))))
            refine .p rfl rfl (.mv rfl) ?_
            refine .p rfl rfl (.mv rfl) ?_
            refine .p rfl rfl (.add rfl rfl (by omega)) ?_
            refine .p rfl rfl (.as rfl) ?_
            refine .p rfl rfl (.as rfl) ?_
            refine .p rfl rfl (.as rfl) ?_
            refine .nil (.code ?_)
            refine .ret _ rfl ?_
            rw [read_good hi hi9 ha (by omega) (by omega) (by omega)]
            exact ⟨rfl, .refl _⟩
        · refine .skip (.blk (.code (.keep [(5, _), (8, _), (9, _), (10, _)] ⟨rfl, rfl, rfl, rfl, trivial⟩ (.region ?_))))
          refine .p rfl rfl (.add rfl rfl (by omega)) ?_
          refine .p rfl rfl (.mv rfl) ?_
          refine .nil ?_
          exact (again (i + 1) ⟨by omega, by omega, fun j hj hlt => by
            rcases Nat.lt_or_ge j i with h2 | h2
            · exact ha j hj h2
            · have : j = i := by omega
              subst this
              omega⟩ (by show _ - (i + 1) < _ - i; omega)).of ⟨rfl, rfl, rfl, rfl, trivial⟩
    · have hsb := sum_bd b hi9 (fun e => absurd (by omega) c17)
      refine .skip rfl rfl ?_
      refine .skip rfl rfl ?_
      refine .p rfl rfl (.pickF rfl rfl) ?_
      refine .nil (.code (.keep [(20, _), (7, _), (6, _), (5, _), (8, _), (9, _), (10, _)] ⟨rfl, rfl, rfl, rfl, rfl, rfl, rfl, trivial⟩ (.condF rfl (.skip (.code (.seq (.keep [(7, _), (6, _), (5, _), (8, _), (9, _), (10, _)] ⟨rfl, rfl, rfl, rfl, rfl, rfl, trivial⟩ (.region ?_))))))))
      refine .p rfl rfl (.mv rfl) ?_
      refine .p rfl rfl (.mv rfl) ?_
      refine .p rfl rfl (.and8 (b := 127) rfl rfl) ?_
      refine .p rfl rfl (.cast (.conv8_U rfl rfl rfl) (show _ = Value.int .u64 (((b.getD i 0).toNat % 128 : Nat) : Int) by rw [and127, getD_at hi])) ?_
      refine .p rfl rfl (.mv rfl) ?_
      refine .p rfl rfl (.cast (.mul rfl rfl (by omega)) (show _ = i64 ((7 * i : Nat) : Int) from congrArg i64 (by omega))) ?_
      refine .p rfl rfl (.cast (.shlU (7 * i) rfl rfl (by omega) (by rw [← pow_cast]; omega)) (show _ = Value.int .u64 (((b.getD i 0).toNat % 128 * 2 ^ (7 * i) : Nat) : Int) by rw [pow_cast])) ?_
      refine .p rfl rfl (.cast (.orU (p := sumTo b i) (q := (b.getD i 0).toNat % 128 * 2 ^ (7 * i)) rfl rfl hs0 (by omega)) (show _ = Value.int .u64 ((sumTo b (i + 1) : Nat) : Int) by rw [sum_or])) ?_
      refine .p rfl rfl (.as rfl) ?_
      refine .nil (.code (.seq (.keep [(5, _), (7, _), (6, _), (8, _), (9, _), (10, _)] ⟨rfl, rfl, rfl, rfl, rfl, rfl, trivial⟩ (.region ?_))))
      refine .p rfl rfl (.mv rfl) ?_
      refine .p rfl rfl (.lt rfl rfl) ?_
      refine .nil (.code (.keep [(30, _), (5, _), (7, _), (6, _), (8, _), (9, _), (10, _)] ⟨rfl, rfl, rfl, rfl, rfl, rfl, rfl, trivial⟩ ?_))
      refine .condD rfl (fun c30 => ?_) (fun c30 => ?_)
      · have hle := lead_eq hi ha (by omega)
        refine .seq (.seq (.keep [(5, _), (7, _), (6, _)] ⟨rfl, rfl, rfl, trivial⟩ (.region ?_)))
        refine .p rfl rfl (.mv rfl) ?_
        refine .p rfl rfl (.eq rfl rfl) ?_
        refine .p rfl rfl (.mv rfl) ?_
        refine .caseD 33 rfl (fun c33 => ?_) (fun c33 => ?_)
        · refine .p rfl rfl (.mv rfl) ?_
          refine .p rfl rfl (.gt rfl rfl) ?_
          refine .p rfl rfl (.pickT rfl rfl) ?_
          refine .nil (.code (.keep [(36, _), (5, _), (6, _)] ⟨rfl, rfl, rfl, trivial⟩ ?_))
          refine .condD rfl (fun c36 => ?_) (fun c36 => ?_)
          · refine .exit rfl (.code (.seq (.keep [] trivial (.region ?_))))
            refine .p rfl rfl (.as rfl) ?_
            refine .p rfl rfl (.as rfl) ?_
            refine .p rfl rfl (.as rfl) ?_
            refine .nil (.code ?_)
            refine .ret _ rfl ?_
            rw [read_badz hi ha (by omega) (by omega)]
            exact ⟨rfl, .refl _⟩
          · refine .skip (.code (.seq (.keep [(5, _), (6, _)] ⟨rfl, rfl, trivial⟩ (.region ?_))))
            refine .p rfl rfl (.mv rfl) ?_
            refine .p rfl rfl (.mv rfl) ?_
            refine .p rfl rfl (.add rfl rfl (by omega)) ?_
            refine .p rfl rfl (.as rfl) ?_
            refine .p rfl rfl (.as rfl) ?_
            refine .p rfl rfl (.as rfl) ?_
            refine .nil (.code ?_)
            refine .ret _ rfl ?_
            rw [read_good hi hi9 ha (by omega) (by omega) (by omega)]
            exact ⟨rfl, .refl _⟩
        · refine .skip rfl rfl ?_
          refine .skip rfl rfl ?_
          refine .p rfl rfl (.pickF rfl rfl) ?_
          refine .nil (.code (.keep [(36, _), (5, _), (6, _)] ⟨rfl, rfl, rfl, trivial⟩ (.condF rfl (.skip (.code (.seq (.keep [(5, _), (6, _)] ⟨rfl, rfl, trivial⟩ (.region ?_))))))))
          refine .p rfl rfl (.mv rfl) ?_
          refine .p rfl rfl (.mv rfl) ?_
          refine .p rfl rfl (.add rfl rfl (by omega)) ?_
          refine .p rfl rfl (.as rfl) ?_
          refine .p rfl rfl (.as rfl) ?_
          refine .p rfl rfl (.as rfl) ?_
          refine .nil (.code ?_)
          refine .ret _ rfl ?_
          rw [read_good hi hi9 ha (by omega) (by omega) (by omega)]
          exact ⟨rfl, .refl _⟩
      · refine .skip (.blk (.code (.keep [(5, _), (8, _), (9, _), (10, _)] ⟨rfl, rfl, rfl, rfl, trivial⟩ (.region ?_))))
        refine .p rfl rfl (.add rfl rfl (by omega)) ?_
        refine .p rfl rfl (.mv rfl) ?_
        refine .nil ?_
        exact (again (i + 1) ⟨by omega, by omega, fun j hj hlt => by
          rcases Nat.lt_or_ge j i with h2 | h2
          · exact ha j hj h2
          · have : j = i := by omega
            subst this
            omega⟩ (by show _ - (i + 1) < _ - i; omega)).of ⟨rfl, rfl, rfl, rfl, trivial⟩
  · refine .exit rfl (.code (.seq (.keep [] trivial (.region ?_))))
    refine .p rfl rfl (.as rfl) ?_
    refine .p rfl rfl (.as rfl) ?_
    refine .p rfl rfl (.as rfl) ?_
    refine .nil (.code ?_)
    refine .ret _ rfl ?_
    rw [read_bad0 (fun j hj => ha j hj (by omega))]
    exact ⟨rfl, .refl _⟩
theorem bClone_fn {w : World} {v : Value} {l : Bs} (h : tBytes.rep All w v l) : Fn Try.prog 88 [v] w (fun r w2 => Gr w2 r l w.heap.size ∧ Ext (fun _ => False) w w2) := by
  obtain ⟨a, cap, rfl, hcap⟩ := Sl.val h
  have hlim := Sl.lim h
  simp only [Lim] at hlim
  refine Fn.enter (fun w => Try.call88 _ w) Try.func88 rfl ?_
  refine .seq (.region ?_)
  refine .p rfl rfl (.as rfl) ?_
  refine .nil (.code (.seq (.seq (.keep [(0, _)] ⟨rfl, trivial⟩ (.region ?_)))))
  refine .p rfl rfl (.mv rfl) ?_
  refine .p rfl rfl (.eqNil rfl rfl rfl) ?_
  refine .nil (.code (.keep [(4, _), (0, _)] ⟨rfl, rfl, trivial⟩ ?_))
  refine .cond rfl (fun c4 => ?_) (fun c4 => ?_)
  · refine .seq (.keep [] trivial (.region ?_))
    refine .p rfl rfl (.as rfl) ?_
    refine .nil (.code ?_)
    refine .ret _ rfl ?_
    rw [Sl.isNone0 h c4]
    exact ⟨OwnO.nil, .refl _⟩
  · refine .skip (.code (.seq (.keep [(0, _)] ⟨rfl, trivial⟩ (.region ?_))))
    refine .v rfl rfl (.lits rfl rfl (fun _ => by kernel_rfl)) ?_
    rintro _ w5 ⟨rfl, N5⟩
    refine .p rfl rfl (.mv rfl) ?_
    refine .v rfl rfl (.appendLo (t := tByte) (Q := fun _ => False) (B := fun k => w.heap.size ≤ k) (eb := 1) rfl (OwnO.ofOwn (Own.ofNew (us := []) N5 .nil (by decide) rfl rfl) (fun _ => Nat.le_refl _)) (fun k hk => by have := N5.size; show w.heap.size ≤ k; omega) rfl (Sl.holds (tBytes.ext0 h N5.ext) (fun _ _ h => h)) rfl rfl rfl rfl rfl rfl rfl (by simp; omega) (by simp [Lim]; omega) (fun _ h _ => h.elim)) ?_
    rintro v7 w7 ⟨G7, Y7⟩
    refine .p rfl rfl (.as rfl) ?_
    refine .nil (.code ?_)
    refine .ret _ rfl ?_
    exact ⟨G7, N5.ext.then Y7 (fun k hk _ => hk)⟩
theorem Cut_fn {w : World} {v : Value} {b : Bs} (h : tBytes.rep All w v b) : Fn Try.prog 76 [v] w (fun r w2 => ∃ v', r = .tuple #[str (cutF b).1, v', i64 (cutF b).2.2] ∧ Gr w2 v' (cutF b).2.1 w.heap.size ∧ Ext (fun _ => False) w w2) := by
  obtain ⟨a, cap, rfl, hcap⟩ := Sl.val h
  obtain ⟨hr1, hr2⟩ := readF_bd b
  have hlim := Sl.lim h
  simp only [Lim] at hlim
  refine Fn.enter (fun w => Try.call76 _ w) Try.func76 rfl ?_
  refine .seq (.region ?_)
  refine .p rfl rfl (.as rfl) ?_
  refine .p rfl rfl (.as rfl) ?_
  refine .p rfl rfl (.as rfl) ?_
  refine .nil (.code (.seq (.keep [(0, _)] ⟨rfl, trivial⟩ (.region ?_))))
  refine .p rfl rfl (.mv rfl) ?_
  refine .call (first := []) (captured := []) rfl rfl rfl rfl (Read_fn h) ?_
  rintro _ w10 ⟨rfl, X10⟩
  have z10 := X10.size
  refine .p rfl rfl (.mv rfl) ?_
  refine .p rfl rfl (.extract rfl rfl) ?_
  refine .p rfl rfl (.extract rfl rfl) ?_
  refine .p rfl rfl (.extract rfl rfl) ?_
  refine .p rfl rfl (.as rfl) ?_
  refine .p rfl rfl (.as rfl) ?_
  refine .p rfl rfl (.as rfl) ?_
  refine .nil (.code (.seq (.seq (.keep [(7, _), (6, _), (5, _), (0, _)] ⟨rfl, rfl, rfl, rfl, trivial⟩ (.region ?_)))))
  refine .p rfl rfl (.mv rfl) ?_
  refine .p rfl rfl (.ne rfl rfl) ?_
  refine .p rfl rfl (.mv rfl) ?_
  refine .caseD 16 rfl (fun c16 => ?_) (fun c16 => ?_)
  · refine .skip rfl rfl ?_
    refine .skip rfl rfl ?_
    refine .skip rfl rfl ?_
    refine .skip rfl rfl ?_
    refine .skip rfl rfl ?_
    refine .skip rfl rfl ?_
    refine .skip rfl rfl ?_
    refine .p rfl rfl (.pickT rfl rfl) ?_
    refine .nil (.code (.keep [(24, _), (6, _), (5, _), (0, _)] ⟨rfl, rfl, rfl, rfl, trivial⟩ (.condT rfl (.seq (.keep [] trivial (.region ?_))))))
    refine .p rfl rfl (.as rfl) ?_
    refine .p rfl rfl (.as rfl) ?_
    refine .p rfl rfl (.as rfl) ?_
    refine .nil (.code ?_)
    refine .ret _ rfl ?_
    exact ⟨_, by unfold cutF; rw [if_pos (.inl c16)]; rfl, by unfold cutF; rw [if_pos (.inl c16)]; exact OwnO.nil, X10⟩
  · refine .p rfl rfl (.mv rfl) ?_
    refine .p rfl rfl (.mv rfl) ?_
    refine .p rfl rfl (.len rfl rfl) ?_
    refine .p rfl rfl (.mv rfl) ?_
    refine .p rfl rfl (.sub rfl rfl (by omega)) ?_
    refine .p rfl rfl (.convU rfl rfl rfl (by omega)) ?_
    refine .p rfl rfl (.gt rfl rfl) ?_
    refine .p rfl rfl (.pickF rfl rfl) ?_
    refine .nil (.code (.keep [(24, _), (6, _), (5, _), (0, _)] ⟨rfl, rfl, rfl, rfl, trivial⟩ ?_))
    refine .condD rfl (fun c24 => ?_) (fun c24 => ?_)
    · refine .seq (.keep [] trivial (.region ?_))
      refine .p rfl rfl (.as rfl) ?_
      refine .p rfl rfl (.as rfl) ?_
      refine .p rfl rfl (.as rfl) ?_
      refine .nil (.code ?_)
      refine .ret _ rfl ?_
      exact ⟨_, by unfold cutF; rw [if_pos (.inr (by omega))]; rfl, by unfold cutF; rw [if_pos (.inr (by omega))]; exact OwnO.nil, X10⟩
    · obtain ⟨a27, c27, hv27, hc27, R27⟩ := Sl.cutE h (readF b).2.1 b.length (by omega) (by omega)
      rw [List.take_length] at R27
      obtain ⟨a30, c30, hv30, hc30, R30⟩ := Sl.cutE R27 0 (readF b).1 (by omega) (by omega)
      rw [List.drop_zero] at R30
      obtain ⟨a34, c34, hv34, hc34, R34⟩ := Sl.cutE R27 (readF b).1 (b.length - (readF b).2.1) (by omega) (by omega)
      rw [List.take_of_length_le (by simp)] at R34
      refine .skip (.code (.seq (.keep [(6, _), (5, _), (0, _)] ⟨rfl, rfl, rfl, trivial⟩ (.region ?_))))
      refine .p rfl rfl (.mv rfl) ?_
      refine .p rfl rfl (.mv rfl) ?_
      refine .p rfl rfl (.cast (.cutLo (s := 1) rfl rfl rfl rfl (by omega)) (show cutV 1 a cap ((readF b).2.1 : Int).toNat b.length = .slice a27 (b.length - (readF b).2.1) c27 by rw [Int.toNat_natCast]; exact hv27)) ?_
      refine .p rfl rfl (.as rfl) ?_
      refine .nil (.code (.seq (.keep [(0, _), (5, _)] ⟨rfl, rfl, trivial⟩ (.mix (fun _ => False) [7] (by kernel_rfl) (by kernel_rfl) (by kernel_rfl) ?_))))
      refine .p rfl rfl rfl (fun wx hx => .mv rfl) ?_
      refine .p rfl rfl rfl (fun wx hx => .mv rfl) ?_
      refine .p rfl rfl rfl (fun wx hx => .cast (.cutHi (s := 1) rfl rfl rfl rfl (by omega)) (show cutV 1 a27 c27 0 ((readF b).1 : Int).toNat = .slice a30 ((readF b).1 - 0) c30 by rw [Int.toNat_natCast]; exact hv30)) ?_
      refine .p rfl rfl rfl (fun wx hx => .bytesStr rfl (tBytes.ext0 R30 (X10.trans hx)) rfl rfl rfl) ?_
      refine .p rfl rfl rfl (fun wx hx => .mv rfl) ?_
      refine .p rfl rfl rfl (fun wx hx => .mv rfl) ?_
      refine .p rfl rfl rfl (fun wx hx => .cast (.cutLo (s := 1) rfl rfl rfl rfl (by omega)) (show cutV 1 a27 c27 ((readF b).1 : Int).toNat (b.length - (readF b).2.1) = .slice a34 (b.length - (readF b).2.1 - (readF b).1) c34 by rw [Int.toNat_natCast]; exact hv34)) ?_
      refine .call (first := []) (captured := []) rfl rfl rfl rfl rfl (bClone_fn (tBytes.ext0 R34 X10)) (by rintro _ _ ⟨_, hx⟩; exact hx) ?_
      rintro r35 w35 ⟨G35, X35⟩
      refine .p rfl rfl rfl (fun wx hx => .as rfl) ?_
      refine .p rfl rfl rfl (fun wx hx => .as rfl) ?_
      refine .p rfl rfl rfl (fun wx hx => .as rfl) ?_
      refine .nil (.code ?_)
      refine .ret _ rfl ?_
      have e : cutF b = ((b.drop (readF b).2.1).take (readF b).1, (b.drop (readF b).2.1).drop (readF b).1, 0) := by unfold cutF; rw [if_neg (fun h => h.elim c16 (by omega))]
      rw [e]
      exact ⟨_, rfl, Gr.low G35 z10, X10.trans X35⟩
end Go.Proofs.Ythkgadhamecnlaa
