import Derived.Test.YthliepcjfnjnoaaGreatDoorT05
import Derived.Test.YthliepcjfnjnoaaGreatDoorT06
import Derived.Test.YthliepcjfnjnoaaGreatDoorT04
import Derived.Test.YthliepcjfnjnoaaGreatDoorT07
set_option linter.unusedVariables false
set_option linter.unusedSimpArgs false
set_option maxRecDepth 20000
namespace Go.Proofs.YthliepcjfnjnoaaGreatDoor
open Go
def sumTo (b : Bs) : Nat → Nat
  | 0 => 0
  | i + 1 => sumTo b i + (b.getD i 0).toNat % 128 * 128 ^ i
def leadN (b : Bs) : Nat := (b.takeWhile (fun x => decide (128 ≤ x.toNat))).length
def readOk (b : Bs) : Prop := leadN b < b.length ∧ leadN b ≤ 9 ∧ ¬ (leadN b = 9 ∧ 1 < (b.getD (leadN b) 0).toNat) ∧ ¬ (0 < leadN b ∧ (b.getD (leadN b) 0).toNat = 0)
instance (b : Bs) : Decidable (readOk b) := by unfold readOk; infer_instance
def readF (b : Bs) : Nat × Nat × Int := if readOk b then (sumTo b (leadN b + 1), leadN b + 1, 0) else (0, 0, 8)
theorem sumTo_lt (b : Bs) : ∀ i, sumTo b i < 128 ^ i
  | 0 => by simp [sumTo]
  | i + 1 => by
    have h := sumTo_lt b i
    rw [sumTo, Nat.pow_succ]
    have h1 : (b.getD i 0).toNat % 128 ≤ 127 := by omega
    have h2 : (b.getD i 0).toNat % 128 * 128 ^ i ≤ 127 * 128 ^ i := Nat.mul_le_mul_right _ h1
    omega
theorem pow7 (i : Nat) : 2 ^ (7 * i) = 128 ^ i := by rw [Nat.pow_mul]
theorem sum_or (b : Bs) (i : Nat) : sumTo b i ||| (b.getD i 0).toNat % 128 * 2 ^ (7 * i) = sumTo b (i + 1) := by
  have h := Nat.two_pow_add_eq_or_of_lt (i := 7 * i) (by rw [pow7]; exact sumTo_lt b i) ((b.getD i 0).toNat % 128)
  rw [Nat.or_comm, Nat.mul_comm, ← h, sumTo, pow7, Nat.mul_comm, Nat.add_comm]
theorem and127 (x : UInt8) : (x &&& 127).toNat = x.toNat % 128 := by
  rw [UInt8.toNat_and]
  exact Nat.and_two_pow_sub_one_eq_mod x.toNat 7
theorem sum_bd (b : Bs) {i : Nat} (hi : i ≤ 9) (h : i = 9 → (b.getD i 0).toNat ≤ 1) : (b.getD i 0).toNat % 128 * 2 ^ (7 * i) < 18446744073709551616 ∧ sumTo b (i + 1) < 18446744073709551616 := by
  have h1 := sumTo_lt b i
  rw [pow7, sumTo]
  rcases Nat.lt_or_ge i 9 with h9 | h9
  · have h3 : (128 : Nat) ^ i ≤ 128 ^ 8 := Nat.pow_le_pow_right (by decide) (by omega)
    have h2 : (b.getD i 0).toNat % 128 * 128 ^ i ≤ 127 * 128 ^ i := Nat.mul_le_mul_right _ (by omega)
    have h4 : (128 : Nat) ^ 8 = 72057594037927936 := by decide
    omega
  · obtain rfl : i = 9 := by omega
    have h2 := h rfl
    have h3 : (b.getD 9 0).toNat % 128 * 128 ^ 9 ≤ 1 * 128 ^ 9 := Nat.mul_le_mul_right _ (by omega)
    have h4 : (128 : Nat) ^ 9 = 9223372036854775808 := by decide
    omega
theorem lead_ge : ∀ (b : Bs) (i : Nat), i ≤ b.length → (∀ j (h : j < b.length), j < i → 128 ≤ b[j].toNat) → i ≤ leadN b
  | _, 0, _, _ => Nat.zero_le _
  | [], i + 1, h, _ => absurd h (Nat.not_succ_le_zero _)
  | x :: b, i + 1, h, ha => by
    have h0 := ha 0 (Nat.succ_pos _) (Nat.succ_pos _)
    have ih := lead_ge b i (by simpa using h) (fun j hj hlt => ha (j + 1) (by simpa using hj) (by omega))
    unfold leadN at *
    rw [List.takeWhile_cons, if_pos (by simpa using h0)]
    simp
    omega
theorem lead_eq {b : Bs} {i : Nat} (h : i < b.length) (ha : ∀ j (h : j < b.length), j < i → 128 ≤ b[j].toNat) (hi : b[i].toNat < 128) : leadN b = i := by
  have h1 := lead_ge b i (by omega) ha
  rcases Nat.lt_or_ge i (leadN b) with h2 | h2
  · exfalso
    have h3 : ∀ (b : Bs) (i : Nat) (hi : i < b.length), i < leadN b → 128 ≤ b[i].toNat := by
      intro b
      induction b with
      | nil => intro i hi; exact absurd hi (Nat.not_lt_zero _)
      | cons x b ih =>
        intro i hi hlt
        by_cases hx : 128 ≤ x.toNat
        · have e : leadN (x :: b) = leadN b + 1 := by unfold leadN; rw [List.takeWhile_cons, if_pos (by simpa using hx)]; rfl
          cases i with
          | zero => exact hx
          | succ i => exact ih i (by simpa using hi) (by omega)
        · have e : leadN (x :: b) = 0 := by unfold leadN; rw [List.takeWhile_cons, if_neg (by simpa using hx)]; rfl
          omega
    have := h3 b i h h2
    omega
  · omega
theorem getD_at {b : Bs} {i : Nat} (h : i < b.length) : b.getD i 0 = b[i] := by rw [List.getD_eq_getElem?_getD, List.getElem?_eq_getElem h]; rfl
theorem read_good {b : Bs} {i : Nat} (h : i < b.length) (h9 : i ≤ 9) (ha : ∀ j (h : j < b.length), j < i → 128 ≤ b[j].toNat) (hi : b[i].toNat < 128) (h1 : i = 9 → b[i].toNat ≤ 1) (h0 : 0 < i → b[i].toNat ≠ 0) : readF b = (sumTo b (i + 1), i + 1, 0) := by
  have e := lead_eq h ha hi
  unfold readF
  rw [if_pos, e]
  unfold readOk
  rw [e, getD_at h]
  exact ⟨h, h9, fun hx => by have := h1 hx.1; omega, fun hx => h0 hx.1 hx.2⟩
theorem read_bad0 {b : Bs} (ha : ∀ j (h : j < b.length), 128 ≤ b[j].toNat) : readF b = (0, 0, 8) := by
  have e := lead_ge b b.length (Nat.le_refl _) (fun j hj _ => ha j hj)
  unfold readF
  rw [if_neg]
  rintro ⟨h, _⟩
  omega
theorem read_bad9 {b : Bs} (h : 9 < b.length) (ha : ∀ j (h : j < b.length), j < 9 → 128 ≤ b[j].toNat) (h1 : 1 < b[9].toNat) : readF b = (0, 0, 8) := by
  have e := lead_ge b 9 (by omega) ha
  unfold readF
  rw [if_neg]
  rintro ⟨_, h9, hx, _⟩
  have e9 : leadN b = 9 := by omega
  rw [e9, getD_at h] at hx
  exact hx ⟨rfl, h1⟩
theorem read_badz {b : Bs} {i : Nat} (h : i < b.length) (ha : ∀ j (h : j < b.length), j < i → 128 ≤ b[j].toNat) (h0 : 0 < i) (h1 : b[i].toNat = 0) : readF b = (0, 0, 8) := by
  have e := lead_eq h ha (by omega)
  unfold readF
  rw [if_neg]
  rintro ⟨_, _, _, hx⟩
  rw [e, getD_at h] at hx
  exact hx ⟨h0, h1⟩
theorem Sl.isNone0 {α : Type} {t : Ty α} {P : Nat → Prop} {w : World} {a : Option Addr} {n cap : Nat} {xs : List α} (h : (Sl t).rep P w (.slice a n cap) xs) (ha : a.isNone = true) : xs = [] := by
  obtain ⟨_, a', cap', e, _, ⟨rfl, _⟩ | ⟨b, o, us, rfl, _⟩⟩ := h
  · rfl
  · cases e; cases ha
def cutF (b : Bs) : Bs × Bs × Int := if ¬ (readF b).2.2 = 0 ∨ b.length - (readF b).2.1 < (readF b).1 then ([], [], 8) else ((b.drop (readF b).2.1).take (readF b).1, (b.drop (readF b).2.1).drop (readF b).1, 0)
theorem readF_bd (b : Bs) : (readF b).1 < 18446744073709551616 ∧ (readF b).2.1 ≤ b.length := by
  unfold readF
  split
  · rename_i h
    obtain ⟨h1, h2, h3, h4⟩ := h
    exact ⟨(sum_bd b h2 (fun e => by omega)).2, by show leadN b + 1 ≤ _; omega⟩
  · exact ⟨by decide, Nat.zero_le _⟩
theorem Read_fn {w : World} {v : Value} {b : Bs} (h : tBytes.rep All w v b) : Fn Tryz.prog 26 [v] w (fun r w2 => r = .tuple #[.int .u64 ((readF b).1 : Nat), i64 ((readF b).2.1 : Nat), i64 (readF b).2.2] ∧ Ext (fun _ => False) w w2) := by
  obtain ⟨a, cap, rfl, hcap⟩ := Sl.val h
  have hlim := Sl.lim h
  simp only [Lim] at hlim
  refine Fn.enter (fun w => Tryz.call26 _ w) Tryz.func26 rfl ?_
  refine .seq (.region ?_)
  refine .p rfl rfl (.as rfl) ?_
  refine .p rfl rfl (.as rfl) ?_
  refine .p rfl rfl (.as rfl) ?_
  refine .nil (.code (.seq (.keep [(0, _)] ⟨rfl, trivial⟩ (.region ?_))))
  refine .p rfl rfl (.as rfl) ?_
  refine .nil (.code (.seq (.seq (.region ?_))))
  refine .p rfl rfl (.mv rfl) ?_
  refine .p rfl rfl (.len rfl rfl) ?_
  refine .p rfl rfl (.mv rfl) ?_
  refine .nil (.code (.block (.keep [(10, _), (9, _), (8, _), (5, _)] ⟨rfl, rfl, rfl, rfl, trivial⟩ ?_)))
  refine .loop (S := Nat) (fun s => [(5, .int .u64 (sumTo b s : Nat)), (8, .slice a b.length cap), (9, i64 b.length), (10, i64 s)]) (fun s => w) (fun s => s ≤ b.length ∧ s ≤ 9 ∧ ∀ j (h : j < b.length), j < s → 128 ≤ b[j].toNat) (fun s => b.length - s) 0 ⟨rfl, rfl, rfl, rfl, trivial⟩ rfl ⟨Nat.zero_le _, Nat.zero_le _, fun j _ h => absurd h (Nat.not_lt_zero _)⟩ ?_
  rintro i J ⟨hi', hi9, ha⟩ again
  refine .seq (.region ?_)
  refine .p rfl rfl (.lt rfl rfl) ?_
  refine .nil (.code (.seq ?_))
  refine .condD rfl (fun c11 => ?_) (fun c11 => ?_)
  · have hi : i < b.length := by omega
    obtain ⟨b0, o0, rfl, _, hc⟩ := Sl.byteAt h hi
    have hs0 : sumTo b i < 18446744073709551616 := by
      have h1 := sumTo_lt b i
      have h2 : (128 : Nat) ^ i ≤ 128 ^ 9 := Nat.pow_le_pow_right (by decide) hi9
      have h4 : (128 : Nat) ^ 9 = 9223372036854775808 := by decide
      omega
    have pow_cast : (((b.getD i 0).toNat % 128 * 2 ^ (7 * i) : Nat) : Int) = (((b.getD i 0).toNat % 128 : Nat) : Int) * 2 ^ (7 * i) := by simp
    refine .skip (.code (.seq (.block (.seq (.keep [(5, _), (8, _), (9, _), (10, _)] ⟨rfl, rfl, rfl, rfl, trivial⟩ (.region ?_))))))
    refine .p rfl rfl (.mv rfl) ?_
    refine .p rfl rfl (.indexAddr1 rfl rfl rfl rfl (by omega)) ?_
    refine .p rfl rfl (.load rfl rfl rfl hc) ?_
    refine .p rfl rfl (.as rfl) ?_
    refine .p rfl rfl (.as rfl) ?_
    refine .nil (.code (.seq (.seq (.keep [(7, _), (6, _), (5, _), (8, _), (9, _), (10, _)] ⟨rfl, rfl, rfl, rfl, rfl, rfl, trivial⟩ (.region ?_)))))
    refine .p rfl rfl (.mv rfl) ?_
    refine .p rfl rfl (.eq rfl rfl) ?_
    refine .p rfl rfl (.mv rfl) ?_
    refine .caseD 17 rfl (fun c17 => ?_) (fun c17 => ?_)
    · refine .p rfl rfl (.mv rfl) ?_
      refine .p rfl rfl (.gt rfl rfl) ?_
      refine .p rfl rfl (.pickT rfl rfl) ?_
      refine .nil (.code (.keep [(20, _), (7, _), (6, _), (5, _), (8, _), (9, _), (10, _)] ⟨rfl, rfl, rfl, rfl, rfl, rfl, rfl, trivial⟩ ?_))
      refine .condD rfl (fun c20 => ?_) (fun c20 => ?_)
      · refine .exit rfl (.code (.seq (.keep [] trivial (.region ?_))))
        refine .p rfl rfl (.as rfl) ?_
        refine .p rfl rfl (.as rfl) ?_
        refine .p rfl rfl (.as rfl) ?_
        refine .nil (.code ?_)
        refine .ret _ rfl ?_
        have hi9 : i = 9 := by omega
        subst hi9
        rw [read_bad9 hi ha (by omega)]
        exact ⟨rfl, .refl _⟩
      · have hsb := sum_bd b hi9 (fun e => by rw [getD_at hi]; omega)
        refine .skip (.code (.seq (.keep [(7, _), (6, _), (5, _), (8, _), (9, _), (10, _)] ⟨rfl, rfl, rfl, rfl, rfl, rfl, trivial⟩ (.region ?_))))
        refine .p rfl rfl (.mv rfl) ?_
        refine .p rfl rfl (.mv rfl) ?_
        refine .p rfl rfl (.and8 (b := 127) rfl rfl) ?_
        refine .p rfl rfl (.cast (.conv8_U rfl rfl rfl) (show _ = Value.int .u64 (((b.getD i 0).toNat % 128 : Nat) : Int) by rw [and127, getD_at hi])) ?_
        refine .p rfl rfl (.mv rfl) ?_
        refine .p rfl rfl (.cast (.mul rfl rfl (by omega)) (show _ = i64 ((7 * i : Nat) : Int) from congrArg i64 (by omega))) ?_
        refine .p rfl rfl (.cast (.shlU (7 * i) rfl rfl (by omega) (by rw [← pow_cast]; omega)) (show _ = Value.int .u64 (((b.getD i 0).toNat % 128 * 2 ^ (7 * i) : Nat) : Int) by rw [pow_cast])) ?_
        refine .p rfl rfl (.cast (.orU (p := sumTo b i) (q := (b.getD i 0).toNat % 128 * 2 ^ (7 * i)) rfl rfl hs0 (by omega)) (show _ = Value.int .u64 ((sumTo b (i + 1) : Nat) : Int) by rw [sum_or])) ?_
        refine .p rfl rfl (.as rfl) ?_
        refine .nil (.code (.seq (.keep [(5, _), (7, _), (6, _), (8, _), (9, _), (10, _)] ⟨rfl, rfl, rfl, rfl, rfl, rfl, trivial⟩ (.region ?_))))
        refine .p rfl rfl (.mv rfl) ?_
        refine .p rfl rfl (.lt rfl rfl) ?_
        refine .nil (.code (.keep [(30, _), (5, _), (7, _), (6, _), (8, _), (9, _), (10, _)] ⟨rfl, rfl, rfl, rfl, rfl, rfl, rfl, trivial⟩ ?_))
        refine .condD rfl (fun c30 => ?_) (fun c30 => ?_)
        · have hle := lead_eq hi ha (by omega)
          refine .seq (.seq (.keep [(5, _), (7, _), (6, _)] ⟨rfl, rfl, rfl, trivial⟩ (.region ?_)))
          refine .p rfl rfl (.mv rfl) ?_
          refine .p rfl rfl (.eq rfl rfl) ?_
          refine .p rfl rfl (.mv rfl) ?_
          refine .caseD 33 rfl (fun c33 => ?_) (fun c33 => ?_)
          · refine .p rfl rfl (.mv rfl) ?_
            refine .p rfl rfl (.gt rfl rfl) ?_
            refine .p rfl rfl (.pickT rfl rfl) ?_
            refine .nil (.code (.keep [(36, _), (5, _), (6, _)] ⟨rfl, rfl, rfl, trivial⟩ ?_))
            refine .condD rfl (fun c36 => ?_) (fun c36 => ?_)
            · refine .exit rfl (.code (.seq (.keep [] trivial (.region ?_))))
              refine .p rfl rfl (.as rfl) ?_
              refine .p rfl rfl (.as rfl) ?_
              refine .p rfl rfl (.as rfl) ?_
              refine .nil (.code ?_)
              refine .ret _ rfl ?_
              rw [read_badz hi ha (by omega) (by omega)]
              exact ⟨rfl, .refl _⟩
            · refine .skip (.code (.seq (.keep [(5, _), (6, _)] ⟨rfl, rfl, trivial⟩ (.region ?_))))
              refine .p rfl rfl (.mv rfl) ?_
              refine .p rfl rfl (.mv rfl) ?_
              refine .p rfl rfl (.add rfl rfl (by omega)) ?_
              refine .p rfl rfl (.as rfl) ?_
              refine .p rfl rfl (.as rfl) ?_
              refine .p rfl rfl (.as rfl) ?_
              refine .nil (.code ?_)
              refine .ret _ rfl ?_
              rw [read_good hi hi9 ha (by omega) (by omega) (by omega)]
              exact ⟨rfl, .refl _⟩
          · refine .skip rfl rfl ?_
            refine .skip rfl rfl ?_
            refine .p rfl rfl (.pickF rfl rfl) ?_
            refine .nil (.code (.keep [(36, _), (5, _), (6, _)] ⟨rfl, rfl, rfl, trivial⟩ (.condF rfl (.skip (.code (.seq (.keep [(5, _), (6, _)] ⟨rfl, rfl, trivial⟩ (.region ?_))))))))
            refine .p rfl rfl (.mv rfl) ?_
            refine .p rfl rfl (.mv rfl) ?_
            refine .p rfl rfl (.add rfl rfl (by omega)) ?_
            refine .p rfl rfl (.as rfl) ?_
            refine .p rfl rfl (.as rfl) ?_
            refine .p rfl rfl (.as rfl) ?_
            refine .nil (.code ?_)
            refine .ret _ rfl ?_
            rw [read_good hi hi9 ha (by omega) (by omega) (by omega)]
            exact ⟨rfl, .refl _⟩
        · refine .skip (.blk (.code (.keep [(5, _), (8, _), (9, _), (10, _)] ⟨rfl, rfl, rfl, rfl, trivial⟩ (.region ?_))))
          refine .p rfl rfl (.add rfl rfl (by omega)) ?_
          refine .p rfl rfl (.mv rfl) ?_
          refine .nil ?_
          exact (again (i + 1) ⟨by omega, by omega, fun j hj hlt => by
            rcases Nat.lt_or_ge j i with h2 | h2
            · exact ha j hj h2
            · have : j = i := by omega
              subst this
              omega⟩ (by show _ - (i + 1) < _ - i; omega)).of ⟨rfl, rfl, rfl, rfl, trivial⟩
    · have hsb := sum_bd b hi9 (fun e => absurd (by omega) c17)
      refine .skip rfl rfl ?_
      refine .skip rfl rfl ?_
      refine .p rfl rfl (.pickF rfl rfl) ?_
      refine .nil (.code (.keep [(20, _), (7, _), (6, _), (5, _), (8, _), (9, _), (10, _)] ⟨rfl, rfl, rfl, rfl, rfl, rfl, rfl, trivial⟩ (.condF rfl (.skip (.code (.seq (.keep [(7, _), (6, _), (5, _), (8, _), (9, _), (10, _)] ⟨rfl, rfl, rfl, rfl, rfl, rfl, trivial⟩ (.region ?_))))))))
      refine .p rfl rfl (.mv rfl) ?_
      refine .p rfl rfl (.mv rfl) ?_
      refine .p rfl rfl (.and8 (b := 127) rfl rfl) ?_
      refine .p rfl rfl (.cast (.conv8_U rfl rfl rfl) (show _ = Value.int .u64 (((b.getD i 0).toNat % 128 : Nat) : Int) by rw [and127, getD_at hi])) ?_
      refine .p rfl rfl (.mv rfl) ?_
      refine .p rfl rfl (.cast (.mul rfl rfl (by omega)) (show _ = i64 ((7 * i : Nat) : Int) from congrArg i64 (by omega))) ?_
      refine .p rfl rfl (.cast (.shlU (7 * i) rfl rfl (by omega) (by rw [← pow_cast]; omega)) (show _ = Value.int .u64 (((b.getD i 0).toNat % 128 * 2 ^ (7 * i) : Nat) : Int) by rw [pow_cast])) ?_
      refine .p rfl rfl (.cast (.orU (p := sumTo b i) (q := (b.getD i 0).toNat % 128 * 2 ^ (7 * i)) rfl rfl hs0 (by omega)) (show _ = Value.int .u64 ((sumTo b (i + 1) : Nat) : Int) by rw [sum_or])) ?_
      refine .p rfl rfl (.as rfl) ?_
      refine .nil (.code (.seq (.keep [(5, _), (7, _), (6, _), (8, _), (9, _), (10, _)] ⟨rfl, rfl, rfl, rfl, rfl, rfl, trivial⟩ (.region ?_))))
      refine .p rfl rfl (.mv rfl) ?_
      refine .p rfl rfl (.lt rfl rfl) ?_
      refine .nil (.code (.keep [(30, _), (5, _), (7, _), (6, _), (8, _), (9, _), (10, _)] ⟨rfl, rfl, rfl, rfl, rfl, rfl, rfl, trivial⟩ ?_))
      refine .condD rfl (fun c30 => ?_) (fun c30 => ?_)
      · have hle := lead_eq hi ha (by omega)
        refine .seq (.seq (.keep [(5, _), (7, _), (6, _)] ⟨rfl, rfl, rfl, trivial⟩ (.region ?_)))
        refine .p rfl rfl (.mv rfl) ?_
        refine .p rfl rfl (.eq rfl rfl) ?_
        refine .p rfl rfl (.mv rfl) ?_
        refine .caseD 33 rfl (fun c33 => ?_) (fun c33 => ?_)
        · refine .p rfl rfl (.mv rfl) ?_
          refine .p rfl rfl (.gt rfl rfl) ?_
          refine .p rfl rfl (.pickT rfl rfl) ?_
          refine .nil (.code (.keep [(36, _), (5, _), (6, _)] ⟨rfl, rfl, rfl, trivial⟩ ?_))
          refine .condD rfl (fun c36 => ?_) (fun c36 => ?_)
          · refine .exit rfl (.code (.seq (.keep [] trivial (.region ?_))))
            refine .p rfl rfl (.as rfl) ?_
            refine .p rfl rfl (.as rfl) ?_
            refine .p rfl rfl (.as rfl) ?_
            refine .nil (.code ?_)
            refine .ret _ rfl ?_
            rw [read_badz hi ha (by omega) (by omega)]
            exact ⟨rfl, .refl _⟩
          · refine .skip (.code (.seq (.keep [(5, _), (6, _)] ⟨rfl, rfl, trivial⟩ (.region ?_))))
            refine .p rfl rfl (.mv rfl) ?_
            refine .p rfl rfl (.mv rfl) ?_
            refine .p rfl rfl (.add rfl rfl (by omega)) ?_
            refine .p rfl rfl (.as rfl) ?_
            refine .p rfl rfl (.as rfl) ?_
            refine .p rfl rfl (.as rfl) ?_
            refine .nil (.code ?_)
            refine .ret _ rfl ?_
            rw [read_good hi hi9 ha (by omega) (by omega) (by omega)]
            exact ⟨rfl, .refl _⟩
        · refine .skip rfl rfl ?_
          refine .skip rfl rfl ?_
          refine .p rfl rfl (.pickF rfl rfl) ?_
          refine .nil (.code (.keep [(36, _), (5, _), (6, _)] ⟨rfl, rfl, rfl, trivial⟩ (.condF rfl (.skip (.code (.seq (.keep [(5, _), (6, _)] ⟨rfl, rfl, trivial⟩ (.region ?_))))))))
          refine .p rfl rfl (.mv rfl) ?_
          refine .p rfl rfl (.mv rfl) ?_
          refine .p rfl rfl (.add rfl rfl (by omega)) ?_
          refine .p rfl rfl (.as rfl) ?_
          refine .p rfl rfl (.as rfl) ?_
          refine .p rfl rfl (.as rfl) ?_
          refine .nil (.code ?_)
          refine .ret _ rfl ?_
          rw [read_good hi hi9 ha (by omega) (by omega) (by omega)]
          exact ⟨rfl, .refl _⟩
      · refine .skip (.blk (.code (.keep [(5, _), (8, _), (9, _), (10, _)] ⟨rfl, rfl, rfl, rfl, trivial⟩ (.region ?_))))
        refine .p rfl rfl (.add rfl rfl (by omega)) ?_
        refine .p rfl rfl (.mv rfl) ?_
        refine .nil ?_
        exact (again (i + 1) ⟨by omega, by omega, fun j hj hlt => by
          rcases Nat.lt_or_ge j i with h2 | h2
          · exact ha j hj h2
          · have : j = i := by omega
            subst this
            omega⟩ (by show _ - (i + 1) < _ - i; omega)).of ⟨rfl, rfl, rfl, rfl, trivial⟩
  · refine .exit rfl (.code (.seq (.keep [] trivial (.region ?_))))
    refine .p rfl rfl (.as rfl) ?_
    refine .p rfl rfl (.as rfl) ?_
    refine .p rfl rfl (.as rfl) ?_
    refine .nil (.code ?_)
    refine .ret _ rfl ?_
    rw [read_bad0 (fun j hj => ha j hj (by omega))]
    exact ⟨rfl, .refl _⟩
theorem bClone_fn {w : World} {v : Value} {l : Bs} (h : tBytes.rep All w v l) : Fn Tryz.prog 40 [v] w (fun r w2 => Gr w2 r l w.heap.size ∧ Ext (fun _ => False) w w2) := by
  obtain ⟨a, cap, rfl, hcap⟩ := Sl.val h
  have hlim := Sl.lim h
  simp only [Lim] at hlim
  refine Fn.enter (fun w => Tryz.call40 _ w) Tryz.func40 rfl ?_
  refine .seq (.region ?_)
  refine .p rfl rfl (.as rfl) ?_
  refine .nil (.code (.seq (.seq (.keep [(0, _)] ⟨rfl, trivial⟩ (.region ?_)))))
  refine .p rfl rfl (.mv rfl) ?_
  refine .p rfl rfl (.eqNil rfl rfl rfl) ?_
  refine .nil (.code (.keep [(4, _), (0, _)] ⟨rfl, rfl, trivial⟩ ?_))
  refine .cond rfl (fun c4 => ?_) (fun c4 => ?_)
  · refine .seq (.keep [] trivial (.region ?_))
    refine .p rfl rfl (.as rfl) ?_
    refine .nil (.code ?_)
    refine .ret _ rfl ?_
    rw [Sl.isNone0 h c4]
    exact ⟨OwnO.nil, .refl _⟩
  · refine .skip (.code (.seq (.keep [(0, _)] ⟨rfl, trivial⟩ (.region ?_))))
    refine .v rfl rfl (.lits rfl rfl (fun _ => by kernel_rfl)) ?_
    rintro _ w5 ⟨rfl, N5⟩
    refine .p rfl rfl (.mv rfl) ?_
    refine .v rfl rfl (.appendLo (t := tByte) (Q := fun _ => False) (B := fun k => w.heap.size ≤ k) (eb := 1) rfl (OwnO.ofOwn (Own.ofNew (us := []) N5 .nil (by decide) rfl rfl) (fun _ => Nat.le_refl _)) (fun k hk => by have := N5.size; show w.heap.size ≤ k; omega) rfl (Sl.holds (tBytes.ext0 h N5.ext) (fun _ _ h => h)) rfl rfl rfl rfl rfl rfl rfl (by simp; omega) (by simp [Lim]; omega) (fun _ h _ => h.elim)) ?_
    rintro v7 w7 ⟨G7, Y7⟩
    refine .p rfl rfl (.as rfl) ?_
    refine .nil (.code ?_)
    refine .ret _ rfl ?_
    exact ⟨G7, N5.ext.then Y7 (fun k hk _ => hk)⟩
theorem Cut_fn {w : World} {v : Value} {b : Bs} (h : tBytes.rep All w v b) : Fn Tryz.prog 28 [v] w (fun r w2 => ∃ v', r = .tuple #[str (cutF b).1, v', i64 (cutF b).2.2] ∧ Gr w2 v' (cutF b).2.1 w.heap.size ∧ Ext (fun _ => False) w w2) := by
  obtain ⟨a, cap, rfl, hcap⟩ := Sl.val h
  obtain ⟨hr1, hr2⟩ := readF_bd b
  have hlim := Sl.lim h
  simp only [Lim] at hlim
  refine Fn.enter (fun w => Tryz.call28 _ w) Tryz.func28 rfl ?_
  refine .seq (.region ?_)
  refine .p rfl rfl (.as rfl) ?_
  refine .p rfl rfl (.as rfl) ?_
  refine .p rfl rfl (.as rfl) ?_
  refine .nil (.code (.seq (.keep [(0, _)] ⟨rfl, trivial⟩ (.region ?_))))
  refine .p rfl rfl (.mv rfl) ?_
  refine .call (first := []) (captured := []) rfl rfl rfl rfl (Read_fn h) ?_
  rintro _ w10 ⟨rfl, X10⟩
  have z10 := X10.size
  refine .p rfl rfl (.mv rfl) ?_
  refine .p rfl rfl (.extract rfl rfl) ?_
  refine .p rfl rfl (.extract rfl rfl) ?_
  refine .p rfl rfl (.extract rfl rfl) ?_
  refine .p rfl rfl (.as rfl) ?_
  refine .p rfl rfl (.as rfl) ?_
  refine .p rfl rfl (.as rfl) ?_
  refine .nil (.code (.seq (.seq (.keep [(7, _), (6, _), (5, _), (0, _)] ⟨rfl, rfl, rfl, rfl, trivial⟩ (.region ?_)))))
  refine .p rfl rfl (.mv rfl) ?_
  refine .p rfl rfl (.ne rfl rfl) ?_
  refine .p rfl rfl (.mv rfl) ?_
  refine .caseD 16 rfl (fun c16 => ?_) (fun c16 => ?_)
  · refine .skip rfl rfl ?_
    refine .skip rfl rfl ?_
    refine .skip rfl rfl ?_
    refine .skip rfl rfl ?_
    refine .skip rfl rfl ?_
    refine .skip rfl rfl ?_
    refine .skip rfl rfl ?_
    refine .p rfl rfl (.pickT rfl rfl) ?_
    refine .nil (.code (.keep [(24, _), (6, _), (5, _), (0, _)] ⟨rfl, rfl, rfl, rfl, trivial⟩ (.condT rfl (.seq (.keep [] trivial (.region ?_))))))
    refine .p rfl rfl (.as rfl) ?_
    refine .p rfl rfl (.as rfl) ?_
    refine .p rfl rfl (.as rfl) ?_
    refine .nil (.code ?_)
    refine .ret _ rfl ?_
    exact ⟨_, by unfold cutF; rw [if_pos (.inl c16)]; rfl, by unfold cutF; rw [if_pos (.inl c16)]; exact OwnO.nil, X10⟩
  · refine .p rfl rfl (.mv rfl) ?_
    refine .p rfl rfl (.mv rfl) ?_
    refine .p rfl rfl (.len rfl rfl) ?_
    refine .p rfl rfl (.mv rfl) ?_
    refine .p rfl rfl (.sub rfl rfl (by omega)) ?_
    refine .p rfl rfl (.convU rfl rfl rfl (by omega)) ?_
    refine .p rfl rfl (.gt rfl rfl) ?_
    refine .p rfl rfl (.pickF rfl rfl) ?_
    refine .nil (.code (.keep [(24, _), (6, _), (5, _), (0, _)] ⟨rfl, rfl, rfl, rfl, trivial⟩ ?_))
    refine .condD rfl (fun c24 => ?_) (fun c24 => ?_)
    · refine .seq (.keep [] trivial (.region ?_))
      refine .p rfl rfl (.as rfl) ?_
      refine .p rfl rfl (.as rfl) ?_
      refine .p rfl rfl (.as rfl) ?_
      refine .nil (.code ?_)
      refine .ret _ rfl ?_
      exact ⟨_, by unfold cutF; rw [if_pos (.inr (by omega))]; rfl, by unfold cutF; rw [if_pos (.inr (by omega))]; exact OwnO.nil, X10⟩
    · obtain ⟨a27, c27, hv27, hc27, R27⟩ := Sl.cutE h (readF b).2.1 b.length (by omega) (by omega)
      rw [List.take_length] at R27
      obtain ⟨a30, c30, hv30, hc30, R30⟩ := Sl.cutE R27 0 (readF b).1 (by omega) (by omega)
      rw [List.drop_zero] at R30
      obtain ⟨a34, c34, hv34, hc34, R34⟩ := Sl.cutE R27 (readF b).1 (b.length - (readF b).2.1) (by omega) (by omega)
      rw [List.take_of_length_le (by simp)] at R34
      refine .skip (.code (.seq (.keep [(6, _), (5, _), (0, _)] ⟨rfl, rfl, rfl, trivial⟩ (.region ?_))))
      refine .p rfl rfl (.mv rfl) ?_
      refine .p rfl rfl (.mv rfl) ?_
      refine .p rfl rfl (.cast (.cutLo (s := 1) rfl rfl rfl rfl (by omega)) (show cutV 1 a cap ((readF b).2.1 : Int).toNat b.length = .slice a27 (b.length - (readF b).2.1) c27 by rw [Int.toNat_natCast]; exact hv27)) ?_
      refine .p rfl rfl (.as rfl) ?_
      refine .nil (.code (.seq (.keep [(0, _), (5, _)] ⟨rfl, rfl, trivial⟩ (.mix (fun _ => False) [7] (by kernel_rfl) (by kernel_rfl) (by kernel_rfl) ?_))))
      refine .p rfl rfl rfl (fun wx hx => .mv rfl) ?_
      refine .p rfl rfl rfl (fun wx hx => .mv rfl) ?_
      refine .p rfl rfl rfl (fun wx hx => .cast (.cutHi (s := 1) rfl rfl rfl rfl (by omega)) (show cutV 1 a27 c27 0 ((readF b).1 : Int).toNat = .slice a30 ((readF b).1 - 0) c30 by rw [Int.toNat_natCast]; exact hv30)) ?_
      refine .p rfl rfl rfl (fun wx hx => .bytesStr rfl (tBytes.ext0 R30 (X10.trans hx)) rfl rfl rfl) ?_
      refine .p rfl rfl rfl (fun wx hx => .mv rfl) ?_
      refine .p rfl rfl rfl (fun wx hx => .mv rfl) ?_
      refine .p rfl rfl rfl (fun wx hx => .cast (.cutLo (s := 1) rfl rfl rfl rfl (by omega)) (show cutV 1 a27 c27 ((readF b).1 : Int).toNat (b.length - (readF b).2.1) = .slice a34 (b.length - (readF b).2.1 - (readF b).1) c34 by rw [Int.toNat_natCast]; exact hv34)) ?_
      refine .call (first := []) (captured := []) rfl rfl rfl rfl rfl (bClone_fn (tBytes.ext0 R34 X10)) (by rintro _ _ ⟨_, hx⟩; exact hx) ?_
      rintro r35 w35 ⟨G35, X35⟩
      refine .p rfl rfl rfl (fun wx hx => .as rfl) ?_
      refine .p rfl rfl rfl (fun wx hx => .as rfl) ?_
      refine .p rfl rfl rfl (fun wx hx => .as rfl) ?_
      refine .nil (.code ?_)
      refine .ret _ rfl ?_
      have e : cutF b = ((b.drop (readF b).2.1).take (readF b).1, (b.drop (readF b).2.1).drop (readF b).1, 0) := by unfold cutF; rw [if_neg (fun h => h.elim c16 (by omega))]
      rw [e]
      exact ⟨_, rfl, Gr.low G35 z10, X10.trans X35⟩
end Go.Proofs.YthliepcjfnjnoaaGreatDoor
namespace Go.Proofs.YthliepcjfnjnoaaGreatDoor
open Go
namespace tree
structure Change where
  key : Bs
  value : Bs
  gone : Bool
deriving DecidableEq
def tChange : Ty Change := (tStr.pair (tStr.pair tBool)).map (fun x => (x.key, x.value, x.gone))
theorem tChange.val {P : Nat → Prop} {w : World} {v : Value} {x : Change} (h : tChange.rep P w v x) : v = .agg #[str x.key, str x.value, .bool x.gone] ∧ x.key.length < Lim ∧ x.value.length < Lim := by
  obtain ⟨_, _, rfl, ⟨rfl, h1⟩, _, _, rfl, ⟨rfl, h2⟩, rfl⟩ := h
  exact ⟨rfl, h1, h2⟩
theorem tChange.mk {P : Nat → Prop} {w : World} {x : Change} (h1 : x.key.length < Lim) (h2 : x.value.length < Lim) : tChange.rep P w (.agg #[str x.key, str x.value, .bool x.gone]) x :=
  ⟨str x.key, .agg #[str x.value, .bool x.gone], rfl, ⟨rfl, h1⟩, str x.value, .bool x.gone, rfl, ⟨rfl, h2⟩, rfl⟩
def oneC (seen : List Bs) (c : Change) : Int := if c.key = [] ∨ 256 < c.key.length then 60 else if 4096 < c.value.length then 3 else if (c.gone = true ∧ ¬ c.value = []) ∨ c.key ∈ seen then 8 else 0
def chgC : List Bs → List Change → Int
  | _, [] => 0
  | seen, c :: r => if ¬ oneC seen c = 0 then oneC seen c else chgC (seen ++ [c.key]) r
def recB (c : Change) : Bs := textF c.key ++ (if c.gone = true then [1] else 0 :: textF c.value)
def preC (l : List Change) (seq : Int) : Bs := smallF seq.toNat ++ smallF l.length
def bodyC (l : List Change) (seq : Int) : Bs := preC l seq ++ l.flatMap recB
def wF (l : List Change) (seq : Int) : Bs × Int :=
  if seq < 1 ∨ 2147483647 < seq then ([], 2) else if 64 < l.length then ([], 4) else if l.length = 0 then ([], 6) else if ¬ chgC [] l = 0 then ([], chgC [] l) else if 4096 < (bodyC l seq).length then ([], 3) else (bodyC l seq, 0)
theorem wF_2 {l : List Change} {seq : Int} (h : seq < 1 ∨ 2147483647 < seq) : wF l seq = ([], 2) := by unfold wF; rw [if_pos h]
theorem wF_4 {l : List Change} {seq : Int} (h : ¬ (seq < 1 ∨ 2147483647 < seq)) (h2 : 64 < l.length) : wF l seq = ([], 4) := by unfold wF; rw [if_neg h, if_pos h2]
theorem wF_6 {l : List Change} {seq : Int} (h : ¬ (seq < 1 ∨ 2147483647 < seq)) (h2 : l.length = 0) : wF l seq = ([], 6) := by unfold wF; rw [if_neg h, if_neg (by omega), if_pos h2]
theorem wF_c {l : List Change} {seq e : Int} (h : ¬ (seq < 1 ∨ 2147483647 < seq)) (h2 : ¬ 64 < l.length) (h3 : ¬ l.length = 0) (hc : chgC [] l = e) (he : ¬ e = 0) : wF l seq = ([], e) := by unfold wF; rw [if_neg h, if_neg h2, if_neg h3, if_pos (by rw [hc]; exact he), hc]
theorem wF_3 {l : List Change} {seq : Int} (h : ¬ (seq < 1 ∨ 2147483647 < seq)) (h2 : ¬ 64 < l.length) (h3 : ¬ l.length = 0) (hc : chgC [] l = 0) (hb : 4096 < (bodyC l seq).length) : wF l seq = ([], 3) := by unfold wF; rw [if_neg h, if_neg h2, if_neg h3, if_neg (by rw [hc]; exact fun x => x rfl), if_pos hb]
theorem wF_0 {l : List Change} {seq : Int} (h : ¬ (seq < 1 ∨ 2147483647 < seq)) (h2 : ¬ 64 < l.length) (h3 : ¬ l.length = 0) (hc : chgC [] l = 0) (hb : ¬ 4096 < (bodyC l seq).length) : wF l seq = (bodyC l seq, 0) := by unfold wF; rw [if_neg h, if_neg h2, if_neg h3, if_neg (by rw [hc]; exact fun x => x rfl), if_neg hb]
theorem chg_step {l : List Change} {seen : List Bs} {i : Nat} (h : i < l.length) : chgC seen (l.drop i) = if ¬ oneC seen l[i] = 0 then oneC seen l[i] else chgC (seen ++ [l[i].key]) (l.drop (i + 1)) := by
  rw [List.drop_eq_getElem_cons h, chgC]
theorem chg_err {l : List Change} {seen : List Bs} {i : Nat} {e : Int} (h : i < l.length) (hchg : chgC [] l = chgC seen (l.drop i)) (he : oneC seen l[i] = e) (h0 : ¬ e = 0) : chgC [] l = e := by
  rw [hchg, chg_step h, if_pos (by rw [he]; exact h0), he]
theorem chg_ok {l : List Change} {seen : List Bs} {i : Nat} (h : i < l.length) (hchg : chgC [] l = chgC seen (l.drop i)) (he : oneC seen l[i] = 0) : chgC [] l = chgC (seen ++ [l[i].key]) (l.drop (i + 1)) := by
  rw [hchg, chg_step h, if_neg (by rw [he]; exact fun x => x rfl)]
theorem recB_len {c : Change} (h1 : c.key.length ≤ 256) (h2 : c.value.length ≤ 4096) : (recB c).length ≤ 4400 := by
  have h3 := smallF_length c.key.length
  have h4 := smallF_length c.value.length
  unfold recB textF
  split <;> simp <;> omega
theorem recB_T {c : Change} (h : c.gone = true) : recB c = textF c.key ++ [1] := by unfold recB; rw [if_pos h]
theorem recB_F {c : Change} (h : c.gone = false) : recB c = textF c.key ++ 0 :: textF c.value := by unfold recB; rw [if_neg (by rw [h]; exact Bool.false_ne_true)]
theorem keys_step {l : List Change} {i : Nat} (h : i < l.length) : (l.take (i + 1)).map (·.key) = (l.take i).map (·.key) ++ [l[i].key] := by
  rw [List.take_succ_eq_append_getElem h, List.map_append]
  rfl
theorem recs_step {l : List Change} {i : Nat} (h : i < l.length) : (l.take (i + 1)).flatMap recB = (l.take i).flatMap recB ++ recB l[i] := by
  rw [List.take_succ_eq_append_getElem h, List.flatMap_append]
  simp
theorem oneC_ok {seen : List Bs} {c : Change} (h : oneC seen c = 0) : c.key ≠ [] ∧ c.key.length ≤ 256 ∧ c.value.length ≤ 4096 ∧ (c.gone = true → c.value = []) ∧ c.key ∉ seen := by
  unfold oneC at h
  split at h
  · omega
  · rename_i h1
    split at h
    · omega
    · split at h
      · omega
      · rename_i h3
        exact ⟨fun e => h1 (.inl e), by omega, by omega, fun e => Decidable.byContradiction (fun e2 => h3 (.inl ⟨e, e2⟩)), fun e => h3 (.inr e)⟩
theorem textF_len (l : Bs) : (textF l).length ≤ 10 + l.length := by
  have := smallF_length l.length
  simp [textF]
  omega
end tree
open tree
theorem TWrite_fn {w : World} {v : Value} {l : List Change} {seq : Int} (h : (Sl tChange).rep All w v l) : Fn Tryz.prog 7 [v, i64 seq] w (fun r w2 => r = .tuple #[str (wF l seq).1, i64 (wF l seq).2] ∧ Ext (fun _ => False) w w2) := by
  obtain ⟨a, cap, rfl, hcap⟩ := Sl.val h
  refine Fn.enter (fun w => Tryz.call7 _ w) Tryz.func7 rfl ?_
  refine .seq (.region ?_)
  refine .p rfl rfl (.as rfl) ?_
  refine .p rfl rfl (.as rfl) ?_
  refine .nil (.code (.seq (.block (.seq (.keep [(0, _), (1, _)] ⟨rfl, rfl, trivial⟩ (.region ?_))))))
  refine .p rfl rfl (.mv rfl) ?_
  refine .p rfl rfl (.lt rfl rfl) ?_
  refine .p rfl rfl (.mv rfl) ?_
  refine .caseD 13 rfl (fun c13 => ?_) (fun c13 => ?_)
  · refine .skip rfl rfl ?_
    refine .skip rfl rfl ?_
    refine .p rfl rfl (.pickT rfl rfl) ?_
    refine .p rfl rfl (.as rfl) ?_
    refine .nil (.code (.keep [(10, _), (0, _), (1, _)] ⟨rfl, rfl, rfl, trivial⟩ (.condT rfl (.seq (.keep [] trivial (.region ?_))))))
    refine .p rfl rfl (.as rfl) ?_
    refine .p rfl rfl (.as rfl) ?_
    refine .nil (.code ?_)
    refine .ret _ rfl ?_
    rw [wF_2 (by omega)]
    exact ⟨rfl, .refl _⟩
  · refine .p rfl rfl (.mv rfl) ?_
    refine .p rfl rfl (.gt rfl rfl) ?_
    refine .p rfl rfl (.pickF rfl rfl) ?_
    refine .p rfl rfl (.as rfl) ?_
    refine .nil (.code (.keep [(10, _), (0, _), (1, _)] ⟨rfl, rfl, rfl, trivial⟩ ?_))
    refine .condD rfl (fun c10 => ?_) (fun c10 => ?_)
    · refine .seq (.keep [] trivial (.region ?_))
      refine .p rfl rfl (.as rfl) ?_
      refine .p rfl rfl (.as rfl) ?_
      refine .nil (.code ?_)
      refine .ret _ rfl ?_
      rw [wF_2 (by omega)]
      exact ⟨rfl, .refl _⟩
    · refine .seq (.keep [(0, _), (1, _)] ⟨rfl, rfl, trivial⟩ (.region ?_))
      refine .p rfl rfl (.mv rfl) ?_
      refine .p rfl rfl (.len rfl rfl) ?_
      refine .p rfl rfl (.gt rfl rfl) ?_
      refine .p rfl rfl (.as rfl) ?_
      refine .nil (.code (.keep [(17, _), (0, _), (1, _)] ⟨rfl, rfl, rfl, trivial⟩ ?_))
      refine .condD rfl (fun c17 => ?_) (fun c17 => ?_)
      · refine .seq (.keep [] trivial (.region ?_))
        refine .p rfl rfl (.as rfl) ?_
        refine .p rfl rfl (.as rfl) ?_
        refine .nil (.code ?_)
        refine .ret _ rfl ?_
        rw [wF_4 (by omega) (by omega)]
        exact ⟨rfl, .refl _⟩
      · refine .seq (.keep [(0, _), (1, _)] ⟨rfl, rfl, trivial⟩ (.region ?_))
        refine .p rfl rfl (.mv rfl) ?_
        refine .p rfl rfl (.len rfl rfl) ?_
        refine .p rfl rfl (.eq rfl rfl) ?_
        refine .p rfl rfl (.as rfl) ?_
        refine .nil (.code (.keep [(21, _), (0, _), (1, _)] ⟨rfl, rfl, rfl, trivial⟩ ?_))
        refine .condD rfl (fun c21 => ?_) (fun c21 => ?_)
        · refine .seq (.keep [] trivial (.region ?_))
          refine .p rfl rfl (.as rfl) ?_
          refine .p rfl rfl (.as rfl) ?_
          refine .nil (.code ?_)
          refine .ret _ rfl ?_
          rw [wF_6 (by omega) (by omega)]
          exact ⟨rfl, .refl _⟩
        · have hsq : ¬ (seq < 1 ∨ 2147483647 < seq) := by omega
          have h64 : ¬ 64 < l.length := by omega
          have hne : ¬ l.length = 0 := by omega
          refine .skip (.blk (.code (.seq (.keep [(0, _), (1, _)] ⟨rfl, rfl, trivial⟩ (.region ?_)))))
          refine .p rfl rfl (.mv rfl) ?_
          refine .p rfl rfl (.cast (.convU rfl rfl rfl (by omega)) (show _ = Value.int .u64 ((seq.toNat : Nat) : Int) by rw [Int.toNat_of_nonneg (by omega)])) ?_
          refine .call (first := []) (captured := []) rfl rfl rfl rfl (Small_fn (n := seq.toNat) (by omega)) ?_
          rintro r27 w27 ⟨G27, X27⟩
          have z27 : w.heap.size ≤ w27.heap.size := X27.size
          refine .p rfl rfl (.mv rfl) ?_
          refine .p rfl rfl (.len rfl rfl) ?_
          refine .p rfl rfl (.convU rfl rfl rfl (by omega)) ?_
          refine .call (first := []) (captured := []) rfl rfl rfl rfl (Small_fn (n := l.length) (by omega)) ?_
          rintro r31 w31 ⟨G31, X31⟩
          have z31 : w27.heap.size ≤ w31.heap.size := X31.size
          have hs1 := smallF_length seq.toNat
          have hs2 := smallF_length l.length
          refine .v rfl rfl (.appendLo (t := tByte) (eb := 1) rfl (OwnO.ext0 G27 X31) (fun k hk => by have hk : w31.heap.size ≤ k := hk; show w.heap.size ≤ k; omega) rfl (Gr.holds (Gr.rep G31)) rfl rfl rfl rfl rfl rfl rfl (by simp; omega) (by simp [Lim]; omega) (fun _ h _ => h.elim)) ?_
          rintro r32 w32 ⟨G32, Y32⟩
          have z32 : w31.heap.size ≤ w32.heap.size := Y32.size
          refine .p rfl rfl (.as rfl) ?_
          refine .nil (.code (.seq (.keep [(6, _), (0, _)] ⟨rfl, rfl, trivial⟩ (.region ?_))))
          refine .v rfl rfl (.makeMap (K := str) trivial) ?_
          rintro _ w33 ⟨rfl, M33, X33, z33⟩
          generalize hm : w32.heap.size = m at M33 ⊢
          refine .p rfl rfl (.as rfl) ?_
          refine .nil (.code (.seq (.seq (.keep [(7, _), (6, _), (0, _)] ⟨rfl, rfl, rfl, trivial⟩ (.region ?_)))))
          refine .p rfl rfl (.mv rfl) ?_
          refine .p rfl rfl (.len rfl rfl) ?_
          refine .p rfl rfl (.mv rfl) ?_
          refine .nil (.code (.block (.keep [(36, _), (35, _), (34, _), (7, _), (6, _)] ⟨rfl, rfl, rfl, rfl, rfl, trivial⟩ ?_)))
          refine .loop (S := Nat × Bs × Value × (Nat → Prop) × World) (fun s => [(6, s.2.2.1), (7, .map (some m)), (34, .slice a l.length cap), (35, i64 l.length), (36, i64 s.1)]) (fun s => s.2.2.2.2) (fun s => s.1 ≤ l.length ∧ chgC [] l = chgC ((l.take s.1).map (·.key)) (l.drop s.1) ∧ s.2.1 = preC l seq ++ (l.take s.1).flatMap recB ∧ s.2.1.length ≤ 20 + 4400 * s.1 ∧ (∀ k, s.2.2.2.1 k → w.heap.size ≤ k ∧ k ≠ m ∧ k < s.2.2.2.2.heap.size) ∧ MapV str s.2.2.2.2 m (((l.take s.1).map (·.key)).map (fun k => (k, .bool true))) ∧ OwnO tByte (fun _ => False) 5 s.2.2.2.2 s.2.2.1 s.2.1 s.2.2.2.1 ∧ Ext (fun _ => False) w s.2.2.2.2) (fun s => l.length - s.1) (0, smallF seq.toNat ++ smallF l.length, _, (fun k => w.heap.size ≤ k ∧ k < w32.heap.size), w33) ⟨rfl, rfl, rfl, rfl, rfl, trivial⟩ rfl ⟨Nat.zero_le _, rfl, (List.append_nil _).symm, (by show (smallF seq.toNat ++ smallF l.length).length ≤ 20 + 4400 * 0; simp; omega), (fun k hk => ⟨hk.1, by have := hk.2; omega, by have := hk.2; show k < w33.heap.size; omega⟩), M33, (OwnO.mono G32 (fun _ h _ => h) (fun k h1 h2 => ⟨h1, h2⟩)).ext0 X33, ((X27.trans X31).then Y32 (fun k hk _ => hk)).trans X33⟩ ?_
          rintro ⟨i, acc, v6, B, wi⟩ J ⟨hi', hchg, hacc, hal, hB, hM, hG, hX⟩ again
          simp only at hi' hchg hacc hal hB hM hG hX
          have zwi : w.heap.size ≤ wi.heap.size := hX.size
          have hml := hM.lt
          have hmw : w.heap.size ≤ m := by omega
          change G _ [(6, v6), (7, .map (some m)), (34, .slice a l.length cap), (35, i64 l.length), (36, i64 i)] _ _ wi
          refine .seq (.region ?_)
          refine .p rfl rfl (.lt rfl rfl) ?_
          refine .nil (.code (.seq ?_))
          refine .condD rfl (fun c37 => ?_) (fun c37 => ?_)
          · have hi : i < l.length := by omega
            obtain ⟨b0, o0, c0, ue, e, _, hcs, hre⟩ := Sl.at h (List.getElem?_eq_getElem hi)
            cases e
            obtain ⟨rfl, h1, h2⟩ := tChange.val hre
            refine .skip (.code (.seq (.block (.seq (.keep [(6, _), (7, _), (34, _), (35, _), (36, _)] ⟨rfl, rfl, rfl, rfl, rfl, trivial⟩ (.region ?_))))))
            refine .p rfl rfl (.indexAddr (s := 3) rfl rfl rfl rfl (by omega)) ?_
            refine .p rfl rfl (.loadA (n := 3) rfl rfl rfl rfl rfl (hcs.ext hX (fun x => x))) ?_
            refine .v rfl rfl (.alloc rfl rfl) ?_
            rintro _ w9 ⟨rfl, N9⟩
            refine .s rfl (.storeAll (n := 3) rfl rfl rfl rfl rfl N9.blk rfl) ?_
            intro w11 P9
            have X9 := N9.ext.then P9.ext (by rintro k rfl _; exact Nat.le_refl _)
            have B9 := P9.blk
            have z9 : w11.heap.size = wi.heap.size + 1 := by rw [P9.size, N9.size]
            have M9 := hM.ext X9 (fun x => x)
            refine .nil (.code (.seq (.block (.seq (.keep [(9, _), (6, _), (7, _), (34, _), (35, _), (36, _)] ⟨rfl, rfl, rfl, rfl, rfl, rfl, trivial⟩ (.region ?_))))))
            refine .p rfl rfl (.fieldAddr rfl rfl rfl rfl) ?_
            refine .p rfl rfl (.load rfl rfl rfl (B9.cell 0)) ?_
            refine .p rfl rfl (.eqS rfl rfl) ?_
            refine .p rfl rfl (.mv rfl) ?_
            refine .caseD 44 rfl (fun c44 => ?_) (fun c44 => ?_)
            · refine .skip rfl rfl ?_
              refine .skip rfl rfl ?_
              refine .skip rfl rfl ?_
              refine .skip rfl rfl ?_
              refine .p rfl rfl (.pickT rfl rfl) ?_
              refine .p rfl rfl (.as rfl) ?_
              refine .nil (.code (.keep [(40, _), (9, _), (6, _), (7, _), (34, _), (35, _), (36, _)] ⟨rfl, rfl, rfl, rfl, rfl, rfl, rfl, trivial⟩ (.condT rfl (.seq (.keep [] trivial (.region ?_))))))
              refine .p rfl rfl (.as rfl) ?_
              refine .p rfl rfl (.as rfl) ?_
              refine .nil (.code ?_)
              refine .ret _ rfl ?_
              rw [wF_c hsq h64 hne (chg_err hi hchg (e := 60) (by unfold oneC; rw [if_pos (.inl c44)]) (by decide)) (by decide)]
              exact ⟨rfl, hX.trans X9⟩
            · refine .p rfl rfl (.fieldAddr rfl rfl rfl rfl) ?_
              refine .p rfl rfl (.load rfl rfl rfl (B9.cell 0)) ?_
              refine .p rfl rfl (.lenS rfl rfl) ?_
              refine .p rfl rfl (.gt rfl rfl) ?_
              refine .p rfl rfl (.pickF rfl rfl) ?_
              refine .p rfl rfl (.as rfl) ?_
              refine .nil (.code (.keep [(40, _), (9, _), (6, _), (7, _), (34, _), (35, _), (36, _)] ⟨rfl, rfl, rfl, rfl, rfl, rfl, rfl, trivial⟩ ?_))
              refine .condD rfl (fun c40 => ?_) (fun c40 => ?_)
              · refine .seq (.keep [] trivial (.region ?_))
                refine .p rfl rfl (.as rfl) ?_
                refine .p rfl rfl (.as rfl) ?_
                refine .nil (.code ?_)
                refine .ret _ rfl ?_
                rw [wF_c hsq h64 hne (chg_err hi hchg (e := 60) (by unfold oneC; rw [if_pos (.inr (by omega))]) (by decide)) (by decide)]
                exact ⟨rfl, hX.trans X9⟩
              · refine .seq (.keep [(9, _), (6, _), (7, _), (34, _), (35, _), (36, _)] ⟨rfl, rfl, rfl, rfl, rfl, rfl, trivial⟩ (.region ?_))
                refine .p rfl rfl (.fieldAddr rfl rfl rfl rfl) ?_
                refine .p rfl rfl (.load rfl rfl rfl (B9.cell 1)) ?_
                refine .p rfl rfl (.lenS rfl rfl) ?_
                refine .p rfl rfl (.gt rfl rfl) ?_
                refine .p rfl rfl (.as rfl) ?_
                refine .nil (.code (.keep [(50, _), (9, _), (6, _), (7, _), (34, _), (35, _), (36, _)] ⟨rfl, rfl, rfl, rfl, rfl, rfl, rfl, trivial⟩ ?_))
                refine .condD rfl (fun c50 => ?_) (fun c50 => ?_)
                · refine .seq (.keep [] trivial (.region ?_))
                  refine .p rfl rfl (.as rfl) ?_
                  refine .p rfl rfl (.as rfl) ?_
                  refine .nil (.code ?_)
                  refine .ret _ rfl ?_
                  rw [wF_c hsq h64 hne (chg_err hi hchg (e := 3) (by unfold oneC; rw [if_neg (fun h => h.elim c44 (by omega)), if_pos (by omega)]) (by decide)) (by decide)]
                  exact ⟨rfl, hX.trans X9⟩
                · refine .seq (.keep [(9, _), (6, _), (7, _), (34, _), (35, _), (36, _)] ⟨rfl, rfl, rfl, rfl, rfl, rfl, trivial⟩ (.region ?_))
                  refine .p rfl rfl (.fieldAddr rfl rfl rfl rfl) ?_
                  refine .p rfl rfl (.load rfl rfl rfl (B9.cell 2)) ?_
                  refine .p rfl rfl (.mv rfl) ?_
                  refine .case 58 rfl (fun c58 => ?_) (fun c58 => ?_)
                  · refine .p rfl rfl (.fieldAddr rfl rfl rfl rfl) ?_
                    refine .p rfl rfl (.load rfl rfl rfl (B9.cell 1)) ?_
                    refine .p rfl rfl (.neS rfl rfl) ?_
                    refine .p rfl rfl (.pickT rfl rfl) ?_
                    refine .p rfl rfl (.mv rfl) ?_
                    refine .caseD 63 rfl (fun c63 => ?_) (fun c63 => ?_)
                    · refine .skip rfl rfl ?_
                      refine .skip rfl rfl ?_
                      refine .skip rfl rfl ?_
                      refine .skip rfl rfl ?_
                      refine .p rfl rfl (.pickT rfl rfl) ?_
                      refine .p rfl rfl (.as rfl) ?_
                      refine .nil (.code (.keep [(55, _), (9, _), (6, _), (7, _), (34, _), (35, _), (36, _)] ⟨rfl, rfl, rfl, rfl, rfl, rfl, rfl, trivial⟩ (.condT rfl (.seq (.keep [] trivial (.region ?_))))))
                      refine .p rfl rfl (.as rfl) ?_
                      refine .p rfl rfl (.as rfl) ?_
                      refine .nil (.code ?_)
                      refine .ret _ rfl ?_
                      rw [wF_c hsq h64 hne (chg_err hi hchg (e := 8) (by unfold oneC; rw [if_neg (fun h => h.elim c44 (by omega)), if_neg (by omega), if_pos (.inl ⟨c58, c63⟩)]) (by decide)) (by decide)]
                      exact ⟨rfl, hX.trans X9⟩
                    · refine .p rfl rfl (.mv rfl) ?_
                      refine .p rfl rfl (.fieldAddr rfl rfl rfl rfl) ?_
                      refine .p rfl rfl (.load rfl rfl rfl (B9.cell 0)) ?_
                      refine .p rfl rfl (.lookSet (ks := (l.take i).map (·.key)) M9 str_key str_inj' rfl rfl rfl rfl rfl rfl) ?_
                      refine .p rfl rfl (.pickF rfl rfl) ?_
                      refine .p rfl rfl (.as rfl) ?_
                      refine .nil (.code (.keep [(55, _), (9, _), (6, _), (7, _), (34, _), (35, _), (36, _)] ⟨rfl, rfl, rfl, rfl, rfl, rfl, rfl, trivial⟩ ?_))
                      refine .condD rfl (fun c55 => ?_) (fun c55 => ?_)
                      · refine .seq (.keep [] trivial (.region ?_))
                        refine .p rfl rfl (.as rfl) ?_
                        refine .p rfl rfl (.as rfl) ?_
                        refine .nil (.code ?_)
                        refine .ret _ rfl ?_
                        rw [wF_c hsq h64 hne (chg_err hi hchg (e := 8) (by unfold oneC; rw [if_neg (fun h => h.elim c44 (by omega)), if_neg (by omega), if_pos (.inr c55)]) (by decide)) (by decide)]
                        exact ⟨rfl, hX.trans X9⟩
                      · have hone : oneC ((l.take i).map (·.key)) l[i] = 0 := by unfold oneC; rw [if_neg (fun h => h.elim c44 (by omega)), if_neg (by omega), if_neg (fun h => h.elim (fun h => by first | exact c63 h.2 | (rw [c58] at h; exact Bool.false_ne_true h.1)) c55)]
                        obtain ⟨k1, k2, k3, k4, k5⟩ := oneC_ok hone
                        have hnew : ∀ p ∈ ((l.take i).map (·.key)).map (fun k => (k, Value.bool true)), p.1 ≠ l[i].key := by rintro p hp he; obtain ⟨q, hq, rfl⟩ := List.mem_map.1 hp; exact k5 (he ▸ hq)
                        refine .skip (.blk (.code (.seq (.keep [(9, _), (6, _), (7, _), (34, _), (35, _), (36, _)] ⟨rfl, rfl, rfl, rfl, rfl, rfl, trivial⟩ (.region ?_)))))
                        refine .p rfl rfl (.mv rfl) ?_
                        refine .p rfl rfl (.fieldAddr rfl rfl rfl rfl) ?_
                        refine .p rfl rfl (.load rfl rfl rfl (B9.cell 0)) ?_
                        refine .s rfl (.mapPush (k := l[i].key) (v := .bool true) M9 str_key str_inj' hnew rfl rfl rfl rfl rfl) ?_
                        intro w18 h18
                        obtain ⟨M18, X18, z18⟩ := h18
                        have B18 := B9.ext X18 (fun h => by have h : wi.heap.size = m := h; omega)
                        have hGB : OwnO tByte (fun _ => False) 5 w18 v6 acc (fun k => B k ∨ w11.heap.size ≤ k) := ((OwnO.mono hG (fun _ h _ => h) (fun j h1 h2 => (.inl h1 : B j ∨ w11.heap.size ≤ j))).ext0 X9).ext X18 (fun k hk _ he => by have he : k = m := he; rcases hk with hk | hk; exact (hB k hk).2.1 he; omega) (fun _ h _ => h.elim)
                        refine .nil (.code (.seq (.keep [(9, _), (6, _), (7, _), (34, _), (35, _), (36, _)] ⟨rfl, rfl, rfl, rfl, rfl, rfl, trivial⟩ (.region ?_))))
                        refine .p rfl rfl (.mv rfl) ?_
                        refine .p rfl rfl (.fieldAddr rfl rfl rfl rfl) ?_
                        refine .p rfl rfl (.load rfl rfl rfl (B18.cell 0)) ?_
                        refine .call (first := []) (captured := []) rfl rfl rfl rfl (Text_fn (l := l[i].key) (by simp only [Lim]; omega) (by simp only [Lim]; omega)) ?_
                        rintro r75 w75 ⟨G75, X75⟩
                        have z75 : w18.heap.size ≤ w75.heap.size := X75.size
                        have B75 := B18.ext X75 (fun x => x)
                        have ht1 := textF_len l[i].key
                        have ht2 := textF_len l[i].value
                        refine .v rfl rfl (.appendLo (t := tByte) (eb := 1) rfl (OwnO.ext0 hGB X75) (fun k hk => by have hk : w75.heap.size ≤ k := hk; exact .inr (by omega)) rfl (Gr.holds (Gr.rep G75)) rfl rfl rfl rfl rfl rfl rfl (by simp; omega) (by simp [Lim]; omega) (fun _ h _ => h.elim)) ?_
                        rintro r76 w76 ⟨G76, Y76⟩
                        have z76 : w75.heap.size ≤ w76.heap.size := Y76.size
                        have B76 := B75.ext Y76 (fun h => h.elim (fun h => by have := (hB _ h).2.2; omega) (fun h => by omega))
                        refine .p rfl rfl (.as rfl) ?_
                        refine .nil (.code (.seq (.keep [(6, _), (9, _), (7, _), (34, _), (35, _), (36, _)] ⟨rfl, rfl, rfl, rfl, rfl, rfl, trivial⟩ (.region ?_))))
                        refine .p rfl rfl (.fieldAddr rfl rfl rfl rfl) ?_
                        refine .p rfl rfl (.load rfl rfl rfl (B76.cell 2)) ?_
                        refine .nil (.code (.keep [(78, _), (6, _), (9, _), (7, _), (34, _), (35, _), (36, _)] ⟨rfl, rfl, rfl, rfl, rfl, rfl, rfl, trivial⟩ ?_))
                        refine .cond rfl (fun c78 => ?_) (fun c78 => ?_)
                        · refine .keep [(6, _), (7, _), (34, _), (35, _), (36, _)] ⟨rfl, rfl, rfl, rfl, rfl, trivial⟩ (.region ?_)
                          refine .p rfl rfl (.mv rfl) ?_
                          refine .v rfl rfl (.lits rfl rfl (fun _ => by kernel_rfl)) ?_
                          rintro _ w80 ⟨rfl, N80⟩
                          have z80 := N80.size
                          refine .v rfl rfl (.appendLo (t := tByte) (eb := 1) rfl (OwnO.ext0 G76 N80.ext) (fun k hk => by have hk : w80.heap.size ≤ k := hk; exact .inr (by omega)) rfl (one_holds (c := 1) N80) rfl rfl rfl rfl rfl rfl rfl (by simp; omega) (by simp [Lim]; omega) (fun _ h _ => h.elim)) ?_
                          rintro r81 w81 ⟨G81, Y81⟩
                          have z81 : w80.heap.size ≤ w81.heap.size := Y81.size
                          refine .p rfl rfl (.as rfl) ?_
                          refine .nil (.blk (.code (.keep [(6, _), (7, _), (34, _), (35, _), (36, _)] ⟨rfl, rfl, rfl, rfl, rfl, trivial⟩ (.region ?_))))
                          refine .p rfl rfl (.add rfl rfl (by omega)) ?_
                          refine .p rfl rfl (.mv rfl) ?_
                          refine .nil ?_
                          exact (again (i + 1, acc ++ recB l[i], _, (fun k => (B k ∨ w11.heap.size ≤ k) ∧ k < w81.heap.size), w81) ⟨by show i + 1 ≤ l.length; omega, by rw [keys_step hi]; exact chg_ok hi hchg hone, by show acc ++ recB l[i] = _; rw [recs_step hi, hacc, List.append_assoc], by have := recB_len k2 k3; show (acc ++ recB l[i]).length ≤ 20 + 4400 * (i + 1); rw [List.length_append]; omega, (fun k hk => ⟨by rcases hk.1 with h | h; exact (hB k h).1; omega, fun e => by rcases hk.1 with h | h; exact (hB k h).2.1 e; omega, hk.2⟩), by rw [keys_step hi, List.map_append]; exact ((((M18.ext X75 (fun x => x)).ext Y76 (fun h => h.elim (fun h => (hB m h).2.1 rfl) (fun h => by omega))).ext N80.ext (fun x => x)).ext Y81 (fun h => h.elim (fun h => (hB m h).2.1 rfl) (fun h => by omega))), by rw [recB_T c78, ← List.append_assoc]; exact OwnO.mono G81 (fun _ h _ => h) (fun k h hlt => ⟨h, hlt⟩), (((((hX.trans X9).then X18 (fun k h _ => by have h : k = m := h; omega)).trans X75).then Y76 (fun k h _ => by rcases h with h | h; exact (hB k h).1; omega)).trans N80.ext).then Y81 (fun k h _ => by rcases h with h | h; exact (hB k h).1; omega)⟩ (by show l.length - (i + 1) < l.length - i; omega)).of ⟨rfl, rfl, rfl, rfl, rfl, trivial⟩
                        · refine .keep [(6, _), (9, _), (7, _), (34, _), (35, _), (36, _)] ⟨rfl, rfl, rfl, rfl, rfl, rfl, trivial⟩ (.mix ((fun k => B k ∨ w11.heap.size ≤ k)) [1, 2, 5, 6] (by kernel_rfl) (by kernel_rfl) (by kernel_rfl) ?_)
                          refine .p rfl rfl rfl (fun wx hx => .mv rfl) ?_
                          refine .v rfl rfl rfl (.lits rfl rfl (fun _ => by kernel_rfl)) (by rintro _ _ ⟨_, hN⟩; exact hN.ext0) ?_
                          rintro _ w83 ⟨rfl, N83⟩
                          have z83 := N83.size
                          refine .v rfl rfl rfl (.appendLo (t := tByte) (eb := 1) rfl (OwnO.ext0 G76 N83.ext) (fun k hk => by have hk : w83.heap.size ≤ k := hk; exact .inr (by omega)) rfl (one_holds (c := 0) N83) rfl rfl rfl rfl rfl rfl rfl (by simp; omega) (by simp [Lim]; omega) (fun _ h _ => h.elim)) (by rintro _ _ ⟨_, hx⟩; exact (N83.ext0).trans hx) ?_
                          rintro r84 w84 ⟨G84, Y84⟩
                          have z84 : w83.heap.size ≤ w84.heap.size := Y84.size
                          refine .p rfl rfl rfl (fun wx hx => .fieldAddr rfl rfl rfl rfl) ?_
                          refine .p rfl rfl rfl (fun wx hx => .load rfl rfl rfl ((B76.ext hx (fun h => h.elim (fun h => by have := (hB _ h).2.2; omega) (fun h => by omega))).cell 1)) ?_
                          refine .call (first := []) (captured := []) rfl rfl rfl rfl rfl (Text_fn (l := l[i].value) (by simp only [Lim]; omega) (by simp only [Lim]; omega)) (by rintro _ _ ⟨_, hx⟩; exact (N83.ext0.trans Y84).trans (hx.mono (fun _ _ h => h.elim))) ?_
                          rintro r87 w87 ⟨G87, X87⟩
                          have z87 : w84.heap.size ≤ w87.heap.size := X87.size
                          refine .v rfl rfl rfl (.appendLo (t := tByte) (eb := 1) rfl (OwnO.ext0 G84 X87) (fun k hk => by have hk : w87.heap.size ≤ k := hk; exact .inr (by omega)) rfl (Gr.holds (Gr.rep G87)) rfl rfl rfl rfl rfl rfl rfl (by simp; omega) (by simp [Lim]; omega) (fun _ h _ => h.elim)) (by rintro _ _ ⟨_, hx⟩; exact ((N83.ext0.trans Y84).trans (X87.mono (fun _ _ h => h.elim))).trans hx) ?_
                          rintro r88 w88 ⟨G88, Y88⟩
                          have z88 : w87.heap.size ≤ w88.heap.size := Y88.size
                          refine .p rfl rfl rfl (fun wx hx => .as rfl) ?_
                          refine .nil (.blk (.code (.keep [(6, _), (7, _), (34, _), (35, _), (36, _)] ⟨rfl, rfl, rfl, rfl, rfl, trivial⟩ (.region ?_))))
                          refine .p rfl rfl (.add rfl rfl (by omega)) ?_
                          refine .p rfl rfl (.mv rfl) ?_
                          refine .nil ?_
                          exact (again (i + 1, acc ++ recB l[i], _, (fun k => (B k ∨ w11.heap.size ≤ k) ∧ k < w88.heap.size), w88) ⟨by show i + 1 ≤ l.length; omega, by rw [keys_step hi]; exact chg_ok hi hchg hone, by show acc ++ recB l[i] = _; rw [recs_step hi, hacc, List.append_assoc], by have := recB_len k2 k3; show (acc ++ recB l[i]).length ≤ 20 + 4400 * (i + 1); rw [List.length_append]; omega, (fun k hk => ⟨by rcases hk.1 with h | h; exact (hB k h).1; omega, fun e => by rcases hk.1 with h | h; exact (hB k h).2.1 e; omega, hk.2⟩), by rw [keys_step hi, List.map_append]; exact ((((((M18.ext X75 (fun x => x)).ext Y76 (fun h => h.elim (fun h => (hB m h).2.1 rfl) (fun h => by omega))).ext N83.ext (fun x => x)).ext Y84 (fun h => h.elim (fun h => (hB m h).2.1 rfl) (fun h => by omega))).ext X87 (fun x => x)).ext Y88 (fun h => h.elim (fun h => (hB m h).2.1 rfl) (fun h => by omega))), by rw [recB_F c78, ← List.append_assoc, List.append_cons]; exact OwnO.mono G88 (fun _ h _ => h) (fun k h hlt => ⟨h, hlt⟩), (((((((hX.trans X9).then X18 (fun k h _ => by have h : k = m := h; omega)).trans X75).then Y76 (fun k h _ => by rcases h with h | h; exact (hB k h).1; omega)).trans N83.ext).then Y84 (fun k h _ => by rcases h with h | h; exact (hB k h).1; omega)).trans X87).then Y88 (fun k h _ => by rcases h with h | h; exact (hB k h).1; omega)⟩ (by show l.length - (i + 1) < l.length - i; omega)).of ⟨rfl, rfl, rfl, rfl, rfl, trivial⟩
                  · refine .skip rfl rfl ?_
                    refine .skip rfl rfl ?_
                    refine .skip rfl rfl ?_
                    refine .p rfl rfl (.pickF rfl rfl) ?_
                    refine .p rfl rfl (.mv rfl) ?_
                    refine .p rfl rfl (.mv rfl) ?_
                    refine .p rfl rfl (.fieldAddr rfl rfl rfl rfl) ?_
                    refine .p rfl rfl (.load rfl rfl rfl (B9.cell 0)) ?_
                    refine .p rfl rfl (.lookSet (ks := (l.take i).map (·.key)) M9 str_key str_inj' rfl rfl rfl rfl rfl rfl) ?_
                    refine .p rfl rfl (.pickF rfl rfl) ?_
                    refine .p rfl rfl (.as rfl) ?_
                    refine .nil (.code (.keep [(55, _), (9, _), (6, _), (7, _), (34, _), (35, _), (36, _)] ⟨rfl, rfl, rfl, rfl, rfl, rfl, rfl, trivial⟩ ?_))
                    refine .condD rfl (fun c55 => ?_) (fun c55 => ?_)
                    · refine .seq (.keep [] trivial (.region ?_))
                      refine .p rfl rfl (.as rfl) ?_
                      refine .p rfl rfl (.as rfl) ?_
                      refine .nil (.code ?_)
                      refine .ret _ rfl ?_
                      rw [wF_c hsq h64 hne (chg_err hi hchg (e := 8) (by unfold oneC; rw [if_neg (fun h => h.elim c44 (by omega)), if_neg (by omega), if_pos (.inr c55)]) (by decide)) (by decide)]
                      exact ⟨rfl, hX.trans X9⟩
                    · have hone : oneC ((l.take i).map (·.key)) l[i] = 0 := by unfold oneC; rw [if_neg (fun h => h.elim c44 (by omega)), if_neg (by omega), if_neg (fun h => h.elim (fun h => by first | exact c63 h.2 | (rw [c58] at h; exact Bool.false_ne_true h.1)) c55)]
                      obtain ⟨k1, k2, k3, k4, k5⟩ := oneC_ok hone
                      have hnew : ∀ p ∈ ((l.take i).map (·.key)).map (fun k => (k, Value.bool true)), p.1 ≠ l[i].key := by rintro p hp he; obtain ⟨q, hq, rfl⟩ := List.mem_map.1 hp; exact k5 (he ▸ hq)
                      refine .skip (.blk (.code (.seq (.keep [(9, _), (6, _), (7, _), (34, _), (35, _), (36, _)] ⟨rfl, rfl, rfl, rfl, rfl, rfl, trivial⟩ (.region ?_)))))
                      refine .p rfl rfl (.mv rfl) ?_
                      refine .p rfl rfl (.fieldAddr rfl rfl rfl rfl) ?_
                      refine .p rfl rfl (.load rfl rfl rfl (B9.cell 0)) ?_
                      refine .s rfl (.mapPush (k := l[i].key) (v := .bool true) M9 str_key str_inj' hnew rfl rfl rfl rfl rfl) ?_
                      intro w18 h18
                      obtain ⟨M18, X18, z18⟩ := h18
                      have B18 := B9.ext X18 (fun h => by have h : wi.heap.size = m := h; omega)
                      have hGB : OwnO tByte (fun _ => False) 5 w18 v6 acc (fun k => B k ∨ w11.heap.size ≤ k) := ((OwnO.mono hG (fun _ h _ => h) (fun j h1 h2 => (.inl h1 : B j ∨ w11.heap.size ≤ j))).ext0 X9).ext X18 (fun k hk _ he => by have he : k = m := he; rcases hk with hk | hk; exact (hB k hk).2.1 he; omega) (fun _ h _ => h.elim)
                      refine .nil (.code (.seq (.keep [(9, _), (6, _), (7, _), (34, _), (35, _), (36, _)] ⟨rfl, rfl, rfl, rfl, rfl, rfl, trivial⟩ (.region ?_))))
                      refine .p rfl rfl (.mv rfl) ?_
                      refine .p rfl rfl (.fieldAddr rfl rfl rfl rfl) ?_
                      refine .p rfl rfl (.load rfl rfl rfl (B18.cell 0)) ?_
                      refine .call (first := []) (captured := []) rfl rfl rfl rfl (Text_fn (l := l[i].key) (by simp only [Lim]; omega) (by simp only [Lim]; omega)) ?_
                      rintro r75 w75 ⟨G75, X75⟩
                      have z75 : w18.heap.size ≤ w75.heap.size := X75.size
                      have B75 := B18.ext X75 (fun x => x)
                      have ht1 := textF_len l[i].key
                      have ht2 := textF_len l[i].value
                      refine .v rfl rfl (.appendLo (t := tByte) (eb := 1) rfl (OwnO.ext0 hGB X75) (fun k hk => by have hk : w75.heap.size ≤ k := hk; exact .inr (by omega)) rfl (Gr.holds (Gr.rep G75)) rfl rfl rfl rfl rfl rfl rfl (by simp; omega) (by simp [Lim]; omega) (fun _ h _ => h.elim)) ?_
                      rintro r76 w76 ⟨G76, Y76⟩
                      have z76 : w75.heap.size ≤ w76.heap.size := Y76.size
                      have B76 := B75.ext Y76 (fun h => h.elim (fun h => by have := (hB _ h).2.2; omega) (fun h => by omega))
                      refine .p rfl rfl (.as rfl) ?_
                      refine .nil (.code (.seq (.keep [(6, _), (9, _), (7, _), (34, _), (35, _), (36, _)] ⟨rfl, rfl, rfl, rfl, rfl, rfl, trivial⟩ (.region ?_))))
                      refine .p rfl rfl (.fieldAddr rfl rfl rfl rfl) ?_
                      refine .p rfl rfl (.load rfl rfl rfl (B76.cell 2)) ?_
                      refine .nil (.code (.keep [(78, _), (6, _), (9, _), (7, _), (34, _), (35, _), (36, _)] ⟨rfl, rfl, rfl, rfl, rfl, rfl, rfl, trivial⟩ ?_))
                      refine .cond rfl (fun c78 => ?_) (fun c78 => ?_)
                      · refine .keep [(6, _), (7, _), (34, _), (35, _), (36, _)] ⟨rfl, rfl, rfl, rfl, rfl, trivial⟩ (.region ?_)
                        refine .p rfl rfl (.mv rfl) ?_
                        refine .v rfl rfl (.lits rfl rfl (fun _ => by kernel_rfl)) ?_
                        rintro _ w80 ⟨rfl, N80⟩
                        have z80 := N80.size
                        refine .v rfl rfl (.appendLo (t := tByte) (eb := 1) rfl (OwnO.ext0 G76 N80.ext) (fun k hk => by have hk : w80.heap.size ≤ k := hk; exact .inr (by omega)) rfl (one_holds (c := 1) N80) rfl rfl rfl rfl rfl rfl rfl (by simp; omega) (by simp [Lim]; omega) (fun _ h _ => h.elim)) ?_
                        rintro r81 w81 ⟨G81, Y81⟩
                        have z81 : w80.heap.size ≤ w81.heap.size := Y81.size
                        refine .p rfl rfl (.as rfl) ?_
                        refine .nil (.blk (.code (.keep [(6, _), (7, _), (34, _), (35, _), (36, _)] ⟨rfl, rfl, rfl, rfl, rfl, trivial⟩ (.region ?_))))
                        refine .p rfl rfl (.add rfl rfl (by omega)) ?_
                        refine .p rfl rfl (.mv rfl) ?_
                        refine .nil ?_
                        exact (again (i + 1, acc ++ recB l[i], _, (fun k => (B k ∨ w11.heap.size ≤ k) ∧ k < w81.heap.size), w81) ⟨by show i + 1 ≤ l.length; omega, by rw [keys_step hi]; exact chg_ok hi hchg hone, by show acc ++ recB l[i] = _; rw [recs_step hi, hacc, List.append_assoc], by have := recB_len k2 k3; show (acc ++ recB l[i]).length ≤ 20 + 4400 * (i + 1); rw [List.length_append]; omega, (fun k hk => ⟨by rcases hk.1 with h | h; exact (hB k h).1; omega, fun e => by rcases hk.1 with h | h; exact (hB k h).2.1 e; omega, hk.2⟩), by rw [keys_step hi, List.map_append]; exact ((((M18.ext X75 (fun x => x)).ext Y76 (fun h => h.elim (fun h => (hB m h).2.1 rfl) (fun h => by omega))).ext N80.ext (fun x => x)).ext Y81 (fun h => h.elim (fun h => (hB m h).2.1 rfl) (fun h => by omega))), by rw [recB_T c78, ← List.append_assoc]; exact OwnO.mono G81 (fun _ h _ => h) (fun k h hlt => ⟨h, hlt⟩), (((((hX.trans X9).then X18 (fun k h _ => by have h : k = m := h; omega)).trans X75).then Y76 (fun k h _ => by rcases h with h | h; exact (hB k h).1; omega)).trans N80.ext).then Y81 (fun k h _ => by rcases h with h | h; exact (hB k h).1; omega)⟩ (by show l.length - (i + 1) < l.length - i; omega)).of ⟨rfl, rfl, rfl, rfl, rfl, trivial⟩
                      · refine .keep [(6, _), (9, _), (7, _), (34, _), (35, _), (36, _)] ⟨rfl, rfl, rfl, rfl, rfl, rfl, trivial⟩ (.mix ((fun k => B k ∨ w11.heap.size ≤ k)) [1, 2, 5, 6] (by kernel_rfl) (by kernel_rfl) (by kernel_rfl) ?_)
                        refine .p rfl rfl rfl (fun wx hx => .mv rfl) ?_
                        refine .v rfl rfl rfl (.lits rfl rfl (fun _ => by kernel_rfl)) (by rintro _ _ ⟨_, hN⟩; exact hN.ext0) ?_
                        rintro _ w83 ⟨rfl, N83⟩
                        have z83 := N83.size
                        refine .v rfl rfl rfl (.appendLo (t := tByte) (eb := 1) rfl (OwnO.ext0 G76 N83.ext) (fun k hk => by have hk : w83.heap.size ≤ k := hk; exact .inr (by omega)) rfl (one_holds (c := 0) N83) rfl rfl rfl rfl rfl rfl rfl (by simp; omega) (by simp [Lim]; omega) (fun _ h _ => h.elim)) (by rintro _ _ ⟨_, hx⟩; exact (N83.ext0).trans hx) ?_
                        rintro r84 w84 ⟨G84, Y84⟩
                        have z84 : w83.heap.size ≤ w84.heap.size := Y84.size
                        refine .p rfl rfl rfl (fun wx hx => .fieldAddr rfl rfl rfl rfl) ?_
                        refine .p rfl rfl rfl (fun wx hx => .load rfl rfl rfl ((B76.ext hx (fun h => h.elim (fun h => by have := (hB _ h).2.2; omega) (fun h => by omega))).cell 1)) ?_
                        refine .call (first := []) (captured := []) rfl rfl rfl rfl rfl (Text_fn (l := l[i].value) (by simp only [Lim]; omega) (by simp only [Lim]; omega)) (by rintro _ _ ⟨_, hx⟩; exact (N83.ext0.trans Y84).trans (hx.mono (fun _ _ h => h.elim))) ?_
                        rintro r87 w87 ⟨G87, X87⟩
                        have z87 : w84.heap.size ≤ w87.heap.size := X87.size
                        refine .v rfl rfl rfl (.appendLo (t := tByte) (eb := 1) rfl (OwnO.ext0 G84 X87) (fun k hk => by have hk : w87.heap.size ≤ k := hk; exact .inr (by omega)) rfl (Gr.holds (Gr.rep G87)) rfl rfl rfl rfl rfl rfl rfl (by simp; omega) (by simp [Lim]; omega) (fun _ h _ => h.elim)) (by rintro _ _ ⟨_, hx⟩; exact ((N83.ext0.trans Y84).trans (X87.mono (fun _ _ h => h.elim))).trans hx) ?_
                        rintro r88 w88 ⟨G88, Y88⟩
                        have z88 : w87.heap.size ≤ w88.heap.size := Y88.size
                        refine .p rfl rfl rfl (fun wx hx => .as rfl) ?_
                        refine .nil (.blk (.code (.keep [(6, _), (7, _), (34, _), (35, _), (36, _)] ⟨rfl, rfl, rfl, rfl, rfl, trivial⟩ (.region ?_))))
                        refine .p rfl rfl (.add rfl rfl (by omega)) ?_
                        refine .p rfl rfl (.mv rfl) ?_
                        refine .nil ?_
                        exact (again (i + 1, acc ++ recB l[i], _, (fun k => (B k ∨ w11.heap.size ≤ k) ∧ k < w88.heap.size), w88) ⟨by show i + 1 ≤ l.length; omega, by rw [keys_step hi]; exact chg_ok hi hchg hone, by show acc ++ recB l[i] = _; rw [recs_step hi, hacc, List.append_assoc], by have := recB_len k2 k3; show (acc ++ recB l[i]).length ≤ 20 + 4400 * (i + 1); rw [List.length_append]; omega, (fun k hk => ⟨by rcases hk.1 with h | h; exact (hB k h).1; omega, fun e => by rcases hk.1 with h | h; exact (hB k h).2.1 e; omega, hk.2⟩), by rw [keys_step hi, List.map_append]; exact ((((((M18.ext X75 (fun x => x)).ext Y76 (fun h => h.elim (fun h => (hB m h).2.1 rfl) (fun h => by omega))).ext N83.ext (fun x => x)).ext Y84 (fun h => h.elim (fun h => (hB m h).2.1 rfl) (fun h => by omega))).ext X87 (fun x => x)).ext Y88 (fun h => h.elim (fun h => (hB m h).2.1 rfl) (fun h => by omega))), by rw [recB_F c78, ← List.append_assoc, List.append_cons]; exact OwnO.mono G88 (fun _ h _ => h) (fun k h hlt => ⟨h, hlt⟩), (((((((hX.trans X9).then X18 (fun k h _ => by have h : k = m := h; omega)).trans X75).then Y76 (fun k h _ => by rcases h with h | h; exact (hB k h).1; omega)).trans N83.ext).then Y84 (fun k h _ => by rcases h with h | h; exact (hB k h).1; omega)).trans X87).then Y88 (fun k h _ => by rcases h with h | h; exact (hB k h).1; omega)⟩ (by show l.length - (i + 1) < l.length - i; omega)).of ⟨rfl, rfl, rfl, rfl, rfl, trivial⟩
          · obtain rfl : i = l.length := by omega
            obtain ⟨a6, c6, rfl, hc6⟩ := OwnO.val hG
            rw [List.take_length] at hacc
            rw [List.drop_length] at hchg
            have hc0 : chgC [] l = 0 := hchg
            have hbody : bodyC l seq = acc := hacc.symm
            refine .exit rfl (.code (.seq (.seq (.keep [(6, _)] ⟨rfl, trivial⟩ (.region ?_)))))
            refine .p rfl rfl (.mv rfl) ?_
            refine .p rfl rfl (.len rfl rfl) ?_
            refine .p rfl rfl (.gt rfl rfl) ?_
            refine .nil (.code (.keep [(92, _), (6, _)] ⟨rfl, rfl, trivial⟩ ?_))
            refine .condD rfl (fun c92 => ?_) (fun c92 => ?_)
            · refine .seq (.keep [] trivial (.region ?_))
              refine .p rfl rfl (.as rfl) ?_
              refine .p rfl rfl (.as rfl) ?_
              refine .nil (.code ?_)
              refine .ret _ rfl ?_
              rw [wF_3 hsq h64 hne hc0 (by rw [hbody]; omega)]
              exact ⟨rfl, hX⟩
            · refine .skip (.code (.seq (.keep [(6, _)] ⟨rfl, trivial⟩ (.region ?_))))
              refine .p rfl rfl (.mv rfl) ?_
              refine .p rfl rfl (.bytesStr rfl (OwnO.rep hG (R := All) (fun _ _ _ => trivial) (fun _ h _ => h.elim)) rfl rfl rfl) ?_
              refine .p rfl rfl (.as rfl) ?_
              refine .p rfl rfl (.as rfl) ?_
              refine .nil (.code ?_)
              refine .ret _ rfl ?_
              rw [wF_0 hsq h64 hne hc0 (by rw [hbody]; omega), hbody]
              exact ⟨rfl, hX⟩
end Go.Proofs.YthliepcjfnjnoaaGreatDoor
