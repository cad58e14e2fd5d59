
/-
  The document's own bits.Read, bits.Cut.
-/
import Derived.Test.YthkgadhamecnlaaBRead
set_option linter.unusedVariables false
set_option linter.unusedSimpArgs false
set_option maxRecDepth 20000
namespace Go.Proofs.Ythkgadhamecnlaa
open Go
theorem readOk_no {b : Bs} {k : Nat} (hk : k ≤ b.length) (ha : ∀ j (h : j < b.length), j < k → 128 ≤ b[j].toNat) (h : b.length ≤ k ∨ 10 ≤ k) : ¬ readOk b := by
  have := lead_ge b k hk ha
  rintro ⟨h1, h2, _⟩
  omega
theorem readOk_iff {b : Bs} {k : Nat} (hk : k < b.length) (h9 : k < 10) (ha : ∀ j (h : j < b.length), j < k → 128 ≤ b[j].toNat) (hb : (b.getD k 0).toNat < 128) : readOk b ↔ (¬ (k = 9 ∧ 1 < (b.getD k 0).toNat) ∧ ¬ (0 < k ∧ (b.getD k 0).toNat = 0)) := by
  have e := lead_eq hk ha (by rw [getD_at hk] at hb; exact hb)
  unfold readOk
  rw [e]
  exact ⟨fun h => ⟨h.2.2.1, h.2.2.2⟩, fun h => ⟨hk, by omega, h.1, h.2⟩⟩
theorem leadN_of {b : Bs} {k : Nat} (hk : k < b.length) (ha : ∀ j (h : j < b.length), j < k → 128 ≤ b[j].toNat) (hb : (b.getD k 0).toNat < 128) : leadN b = k := lead_eq hk ha (by rw [getD_at hk] at hb; exact hb)
theorem RefRead_fn {w : World} {v : Value} {b : Bs} (h : tBytes.rep All w v b) : Fn Try.prog 84 [v] w (fun r w2 => r = .tuple #[.int .u64 ((readF b).1 : Nat), i64 ((readF b).2.1 : Nat), i64 (readF b).2.2] ∧ Ext (fun _ => False) w w2) := by
  obtain ⟨a, cap, rfl, hcap⟩ := Sl.val h
  have hlim := Sl.lim h
  simp only [Lim] at hlim
  refine Fn.enter (fun w => Try.call84 _ w) Try.func84 rfl ?_
  refine .seq (.region ?_)
  refine .p rfl rfl (.as rfl) ?_
  refine .p rfl rfl (.as rfl) ?_
  refine .p rfl rfl (.as rfl) ?_
  refine .nil (.code (.seq (.keep [(0, _)] ⟨rfl, trivial⟩ (.region ?_))))
  refine .p rfl rfl (.as rfl) ?_
  refine .nil (.code (.seq (.block ?_)))
  refine .loop (S := Nat) (fun s => [(0, .slice a b.length cap), (5, i64 s)]) (fun s => w) (fun s => s ≤ b.length ∧ s ≤ 10 ∧ ∀ j (h : j < b.length), j < s → 128 ≤ b[j].toNat) (fun s => b.length - s) 0 ⟨rfl, rfl, trivial⟩ rfl ⟨Nat.zero_le _, Nat.zero_le _, fun j _ h => absurd h (Nat.not_lt_zero _)⟩ ?_
  rintro k J ⟨hk1, hk10, ha⟩ again
  refine .seq (.seq ?_)
  refine .meet (S := Bool) (fun s => [(0, .slice a b.length cap), (5, i64 k), (22, .bool s)]) (fun s => w) (fun s => (s = true → k < b.length ∧ k < 10 ∧ 128 ≤ (b.getD k 0).toNat) ∧ (s = false → ¬ (k < b.length ∧ k < 10 ∧ 128 ≤ (b.getD k 0).toNat))) ?_ ?_
  · rintro q hq
    refine .code ?_
    refine .cond rfl (fun c22 => ?_) (fun c22 => ?_)
    · refine .skip (.code (.block (.keep [(0, _), (5, _)] ⟨rfl, rfl, trivial⟩ (.region ?_))))
      refine .p rfl rfl (.mv rfl) ?_
      refine .p rfl rfl (.add rfl rfl (by omega)) ?_
      refine .p rfl rfl (.as rfl) ?_
      refine .nil (.blk ?_)
      obtain ⟨g1, g2, g3⟩ := hq.1 c22
      exact (again (k + 1) ⟨by omega, by omega, fun j hj hlt => by
        rcases Nat.lt_or_ge j k with h2 | h2
        · exact ha j hj h2
        · have : j = k := by omega
          subst this
          rw [getD_at hj] at g3
          exact g3⟩ (by show _ - (k + 1) < _ - k; omega)).of ⟨rfl, rfl, trivial⟩
    · have hex := hq.2 c22
      have hno := readOk_no (b := b) (k := k) hk1 ha
      have hyes : k < b.length → k < 10 → (readOk b ↔ (¬ (k = 9 ∧ 1 < (b.getD k 0).toNat) ∧ ¬ (0 < k ∧ (b.getD k 0).toNat = 0))) := fun h1 h2 => readOk_iff h1 h2 ha (by omega)
      refine .exit rfl (.code (.seq (.seq (.keep [(0, _), (5, _)] ⟨rfl, rfl, trivial⟩ ?_))))
      refine .meet (S := Bool) (fun s => [(0, .slice a b.length cap), (5, i64 k), (53, .bool s)]) (fun s => w) (fun s => s = decide (¬ readOk b)) ?_ ?_
      · rintro _ rfl
        refine .code ?_
        refine .condD rfl (fun c53 => ?_) (fun c53 => ?_)
        · refine .seq (.keep [] trivial (.region ?_))
          refine .p rfl rfl (.as rfl) ?_
          refine .p rfl rfl (.as rfl) ?_
          refine .p rfl rfl (.as rfl) ?_
          refine .nil (.code ?_)
          refine .ret _ rfl ?_
          have e : readF b = (0, 0, 8) := by unfold readF; rw [if_neg c53]
          rw [e]
          exact ⟨rfl, .refl _⟩
        · have hok : readOk b := Decidable.not_not.1 c53
          have hkl : k < b.length := by have := hno; rcases Nat.lt_or_ge k b.length with h | h; exact h; exact absurd hok (hno (.inl h))
          have hk9 : k < 10 := by rcases Nat.lt_or_ge k 10 with h | h; exact h; exact absurd hok (hno (.inr h))
          have hlead := leadN_of hkl ha (by omega)
          have hsb := (sum_bd b (i := k) (by omega) (fun e => by have := ((hyes hkl hk9).1 hok).1; omega)).2
          refine .skip (.code (.seq (.keep [(0, _), (5, _)] ⟨rfl, rfl, trivial⟩ (.region ?_))))
          refine .p rfl rfl (.as rfl) ?_
          refine .nil (.code (.seq (.seq (.region ?_))))
          refine .p rfl rfl (.mv rfl) ?_
          refine .p rfl rfl (.as rfl) ?_
          refine .nil (.code (.block (.keep [(7, _), (6, _), (0, _), (5, _)] ⟨rfl, rfl, rfl, rfl, trivial⟩ ?_)))
          refine .loop (S := Nat × Nat × Int) (fun s => [(0, .slice a b.length cap), (5, i64 k), (6, .int .u64 (s.2.1 : Nat)), (7, i64 s.2.2)]) (fun s => w) (fun s => s.1 ≤ k + 1 ∧ sumTo b (k + 1) = sumTo b s.1 + s.2.1 * 128 ^ s.1 ∧ s.2.2 = (s.1 : Int) - 1) (fun s => s.1) (k + 1, 0, k) ⟨rfl, rfl, rfl, rfl, trivial⟩ rfl ⟨Nat.le_refl _, by simp, by show (k : Int) = ((k + 1 : Nat) : Int) - 1; omega⟩ ?_
          rintro ⟨s, n, z⟩ J ⟨hs, hsum, hz⟩ again
          simp only at hs hsum hz
          change G _ [(0, .slice a b.length cap), (5, i64 k), (6, .int .u64 (n : Nat)), (7, i64 z)] _ _ w
          refine .seq (.seq (.region ?_))
          refine .p rfl rfl (.mv rfl) ?_
          refine .p rfl rfl (.ge rfl rfl) ?_
          refine .nil (.code (.keep [(56, _), (0, _), (5, _), (6, _), (7, _)] ⟨rfl, rfl, rfl, rfl, rfl, trivial⟩ ?_))
          refine .condD rfl (fun c56 => ?_) (fun c56 => ?_)
          · obtain ⟨t, rfl⟩ : ∃ t, s = t + 1 := ⟨s - 1, by omega⟩
            have hkt : t < b.length := by omega
            obtain ⟨b1, o1, e1, _, hc6⟩ := Sl.byteAt h hkt
            cases e1
            obtain rfl : z = (t : Int) := by omega
            have hgt : (b.getD t 0).toNat = b[t].toNat := by rw [getD_at hkt]
            have hst : sumTo b (k + 1) = sumTo b t + (n * 128 + b[t].toNat % 128) * 128 ^ t := by rw [hsum, sumTo, hgt, Nat.pow_succ, Nat.add_mul, Nat.mul_assoc, Nat.mul_comm 128 (128 ^ t)]; omega
            have hnb : n * 128 + b[t].toNat % 128 < 18446744073709551616 := by have := Nat.le_mul_of_pos_right (n * 128 + b[t].toNat % 128) (Nat.pow_pos (n := t) (show 0 < 128 by decide)); omega
            have hmod : (b[t] % 128).toNat = b[t].toNat % 128 := by rw [UInt8.toNat_mod]; rfl
            have e7 : ((t : Nat) : Int).toNat = t := by omega
            refine .skip (.code (.seq (.block (.keep [(0, _), (5, _), (6, _), (7, _)] ⟨rfl, rfl, rfl, rfl, trivial⟩ (.region ?_)))))
            refine .p rfl rfl (.mv rfl) ?_
            refine .p rfl rfl (.mulU rfl rfl (by omega)) ?_
            refine .p rfl rfl (.mv rfl) ?_
            refine .p rfl rfl (.mv rfl) ?_
            refine .p rfl rfl (.indexAddr1 rfl rfl rfl rfl (by omega)) ?_
            refine .p rfl rfl (.load rfl rfl rfl (by rw [e7]; exact hc6)) ?_
            refine .p rfl rfl (.rem8 (b := 128) rfl rfl (by decide)) ?_
            refine .p rfl rfl (.conv8_U rfl rfl rfl) ?_
            refine .p rfl rfl (.cast (.addU rfl rfl (by omega)) (show _ = Value.int .u64 ((n * 128 + b[t].toNat % 128 : Nat) : Int) by rw [hmod]; rfl)) ?_
            refine .p rfl rfl (.as rfl) ?_
            refine .nil (.blk (.code (.keep [(6, _), (0, _), (5, _), (7, _)] ⟨rfl, rfl, rfl, rfl, trivial⟩ (.region ?_))))
            refine .p rfl rfl (.mv rfl) ?_
            refine .p rfl rfl (.sub rfl rfl (by omega)) ?_
            refine .p rfl rfl (.as rfl) ?_
            refine .nil ?_
            exact (again (t, n * 128 + b[t].toNat % 128, (t : Int) - 1) ⟨by show t ≤ k + 1; omega, hst, rfl⟩ (by show t < t + 1; omega)).of ⟨rfl, rfl, rfl, rfl, trivial⟩
          · refine .exit rfl (.code (.seq (.keep [(5, _), (6, _)] ⟨rfl, rfl, trivial⟩ (.region ?_))))
            refine .p rfl rfl (.mv rfl) ?_
            refine .p rfl rfl (.mv rfl) ?_
            refine .p rfl rfl (.add rfl rfl (by omega)) ?_
            refine .p rfl rfl (.as rfl) ?_
            refine .p rfl rfl (.as rfl) ?_
            refine .p rfl rfl (.as rfl) ?_
            refine .nil (.code ?_)
            refine .ret _ rfl ?_
            have h0 : s = 0 := by omega
            subst h0
            have e : readF b = (sumTo b (k + 1), k + 1, 0) := by unfold readF; rw [if_pos hok, hlead]
            have e2 : sumTo b (k + 1) = n := by rw [hsum]; simp [sumTo]
            rw [e, e2]
            exact ⟨rfl, .refl _⟩
      · intro meet
        refine .region ?_
        refine .p rfl rfl (.mv rfl) ?_
        refine .p rfl rfl (.mv rfl) ?_
        refine .p rfl rfl (.len rfl rfl) ?_
        refine .p rfl rfl (.ge rfl rfl) ?_
        refine .p rfl rfl (.mv rfl) ?_
        refine .caseD 29 rfl (fun c29 => ?_) (fun c29 => ?_)
        · refine .skip rfl rfl ?_
          refine .skip rfl rfl ?_
          refine .p rfl rfl (.pickT rfl rfl) ?_
          refine .p rfl rfl (.mv rfl) ?_
          refine .skip rfl rfl ?_
          refine .skip rfl rfl ?_
          refine .skip rfl rfl ?_
          refine .skip rfl rfl ?_
          refine .skip rfl rfl ?_
          refine .skip rfl rfl ?_
          refine .skip rfl rfl ?_
          refine .skip rfl rfl ?_
          refine .p rfl rfl (.pickT rfl rfl) ?_
          refine .p rfl rfl (.mv rfl) ?_
          refine .skip rfl rfl ?_
          refine .skip rfl rfl ?_
          refine .skip rfl rfl ?_
          refine .skip rfl rfl ?_
          refine .skip rfl rfl ?_
          refine .skip rfl rfl ?_
          refine .skip rfl rfl ?_
          refine .skip rfl rfl ?_
          refine .skip rfl rfl ?_
          refine .p rfl rfl (.pickT rfl rfl) ?_
          refine .nil ?_
          exact (meet _ (by first | exact (decide_eq_true (hno (by omega))).symm | exact (decide_eq_true (by rw [hyes (by omega) (by omega)]; omega)).symm | exact (decide_eq_false (by rw [hyes (by omega) (by omega)]; omega)).symm | exact decide_eq_decide.2 (by rw [hyes (by omega) (by omega)]; omega))).of ⟨rfl, rfl, rfl, trivial⟩
        · refine .p rfl rfl (.mv rfl) ?_
          refine .p rfl rfl (.ge rfl rfl) ?_
          refine .p rfl rfl (.pickF rfl rfl) ?_
          refine .p rfl rfl (.mv rfl) ?_
          refine .caseD 33 rfl (fun c33 => ?_) (fun c33 => ?_)
          · refine .skip rfl rfl ?_
            refine .skip rfl rfl ?_
            refine .skip rfl rfl ?_
            refine .skip rfl rfl ?_
            refine .skip rfl rfl ?_
            refine .skip rfl rfl ?_
            refine .skip rfl rfl ?_
            refine .skip rfl rfl ?_
            refine .p rfl rfl (.pickT rfl rfl) ?_
            refine .p rfl rfl (.mv rfl) ?_
            refine .skip rfl rfl ?_
            refine .skip rfl rfl ?_
            refine .skip rfl rfl ?_
            refine .skip rfl rfl ?_
            refine .skip rfl rfl ?_
            refine .skip rfl rfl ?_
            refine .skip rfl rfl ?_
            refine .skip rfl rfl ?_
            refine .skip rfl rfl ?_
            refine .p rfl rfl (.pickT rfl rfl) ?_
            refine .nil ?_
            exact (meet _ (by first | exact (decide_eq_true (hno (by omega))).symm | exact (decide_eq_true (by rw [hyes (by omega) (by omega)]; omega)).symm | exact (decide_eq_false (by rw [hyes (by omega) (by omega)]; omega)).symm | exact decide_eq_decide.2 (by rw [hyes (by omega) (by omega)]; omega))).of ⟨rfl, rfl, rfl, trivial⟩
          · refine .p rfl rfl (.mv rfl) ?_
            refine .p rfl rfl (.eq rfl rfl) ?_
            refine .p rfl rfl (.mv rfl) ?_
            refine .caseD 36 rfl (fun c36 => ?_) (fun c36 => ?_)
            · have h99 : k = 9 := by omega
              have hk : 9 < b.length := by omega
              obtain ⟨b1, o1, e1, _, hc9⟩ := Sl.byteAt h hk
              cases e1
              have hgk : (b.getD k 0).toNat = b[9].toNat := by rw [h99, getD_at hk]
              refine .p rfl rfl (.mv rfl) ?_
              refine .p rfl rfl (.indexAddr1 rfl rfl rfl rfl (by omega)) ?_
              refine .p rfl rfl (.load rfl rfl rfl hc9) ?_
              refine .p rfl rfl (.gt rfl rfl) ?_
              refine .p rfl rfl (.pickT rfl rfl) ?_
              refine .p rfl rfl (.pickF rfl rfl) ?_
              refine .p rfl rfl (.mv rfl) ?_
              refine .caseD 43 rfl (fun c43 => ?_) (fun c43 => ?_)
              · refine .skip rfl rfl ?_
                refine .skip rfl rfl ?_
                refine .skip rfl rfl ?_
                refine .skip rfl rfl ?_
                refine .skip rfl rfl ?_
                refine .skip rfl rfl ?_
                refine .skip rfl rfl ?_
                refine .skip rfl rfl ?_
                refine .skip rfl rfl ?_
                refine .p rfl rfl (.pickT rfl rfl) ?_
                refine .nil ?_
                exact (meet _ (by first | exact (decide_eq_true (hno (by omega))).symm | exact (decide_eq_true (by rw [hyes (by omega) (by omega)]; omega)).symm | exact (decide_eq_false (by rw [hyes (by omega) (by omega)]; omega)).symm | exact decide_eq_decide.2 (by rw [hyes (by omega) (by omega)]; omega))).of ⟨rfl, rfl, rfl, trivial⟩
              · refine .p rfl rfl (.mv rfl) ?_
                refine .p rfl rfl (.gt rfl rfl) ?_
                refine .p rfl rfl (.mv rfl) ?_
                refine .caseD 46 rfl (fun c46 => ?_) (fun c46 => ?_)
                · have hk : k < b.length := by omega
                  obtain ⟨b1, o1, e1, _, hc5⟩ := Sl.byteAt h hk
                  cases e1
                  have hgk5 : (b.getD k 0).toNat = b[k].toNat := by rw [getD_at hk]
                  refine .p rfl rfl (.mv rfl) ?_
                  refine .p rfl rfl (.mv rfl) ?_
                  refine .p rfl rfl (.indexAddr1 rfl rfl rfl rfl (by omega)) ?_
                  refine .p rfl rfl (.load rfl rfl rfl hc5) ?_
                  refine .p rfl rfl (.eq rfl rfl) ?_
                  refine .p rfl rfl (.pickT rfl rfl) ?_
                  refine .p rfl rfl (.pickF rfl rfl) ?_
                  refine .nil ?_
                  exact (meet _ (by first | exact (decide_eq_true (hno (by omega))).symm | exact (decide_eq_true (by rw [hyes (by omega) (by omega)]; omega)).symm | exact (decide_eq_false (by rw [hyes (by omega) (by omega)]; omega)).symm | exact decide_eq_decide.2 (by rw [hyes (by omega) (by omega)]; omega))).of ⟨rfl, rfl, rfl, trivial⟩
                · refine .skip rfl rfl ?_
                  refine .skip rfl rfl ?_
                  refine .skip rfl rfl ?_
                  refine .skip rfl rfl ?_
                  refine .skip rfl rfl ?_
                  refine .p rfl rfl (.pickF rfl rfl) ?_
                  refine .p rfl rfl (.pickF rfl rfl) ?_
                  refine .nil ?_
                  exact (meet _ (by first | exact (decide_eq_true (hno (by omega))).symm | exact (decide_eq_true (by rw [hyes (by omega) (by omega)]; omega)).symm | exact (decide_eq_false (by rw [hyes (by omega) (by omega)]; omega)).symm | exact decide_eq_decide.2 (by rw [hyes (by omega) (by omega)]; omega))).of ⟨rfl, rfl, rfl, trivial⟩
            · refine .skip rfl rfl ?_
              refine .skip rfl rfl ?_
              refine .skip rfl rfl ?_
              refine .skip rfl rfl ?_
              refine .p rfl rfl (.pickF rfl rfl) ?_
              refine .p rfl rfl (.pickF rfl rfl) ?_
              refine .p rfl rfl (.mv rfl) ?_
              refine .p rfl rfl (.mv rfl) ?_
              refine .p rfl rfl (.gt rfl rfl) ?_
              refine .p rfl rfl (.mv rfl) ?_
              refine .caseD 46 rfl (fun c46 => ?_) (fun c46 => ?_)
              · have hk : k < b.length := by omega
                obtain ⟨b1, o1, e1, _, hc5⟩ := Sl.byteAt h hk
                cases e1
                have hgk5 : (b.getD k 0).toNat = b[k].toNat := by rw [getD_at hk]
                refine .p rfl rfl (.mv rfl) ?_
                refine .p rfl rfl (.mv rfl) ?_
                refine .p rfl rfl (.indexAddr1 rfl rfl rfl rfl (by omega)) ?_
                refine .p rfl rfl (.load rfl rfl rfl hc5) ?_
                refine .p rfl rfl (.eq rfl rfl) ?_
                refine .p rfl rfl (.pickT rfl rfl) ?_
                refine .p rfl rfl (.pickF rfl rfl) ?_
                refine .nil ?_
                exact (meet _ (by first | exact (decide_eq_true (hno (by omega))).symm | exact (decide_eq_true (by rw [hyes (by omega) (by omega)]; omega)).symm | exact (decide_eq_false (by rw [hyes (by omega) (by omega)]; omega)).symm | exact decide_eq_decide.2 (by rw [hyes (by omega) (by omega)]; omega))).of ⟨rfl, rfl, rfl, trivial⟩
              · refine .skip rfl rfl ?_
                refine .skip rfl rfl ?_
                refine .skip rfl rfl ?_
                refine .skip rfl rfl ?_
                refine .skip rfl rfl ?_
                refine .p rfl rfl (.pickF rfl rfl) ?_
                refine .p rfl rfl (.pickF rfl rfl) ?_
                refine .nil ?_
                exact (meet _ (by first | exact (decide_eq_true (hno (by omega))).symm | exact (decide_eq_true (by rw [hyes (by omega) (by omega)]; omega)).symm | exact (decide_eq_false (by rw [hyes (by omega) (by omega)]; omega)).symm | exact decide_eq_decide.2 (by rw [hyes (by omega) (by omega)]; omega))).of ⟨rfl, rfl, rfl, trivial⟩
  · intro meet
    refine .region ?_
    refine .p rfl rfl (.mv rfl) ?_
    refine .p rfl rfl (.mv rfl) ?_
    refine .p rfl rfl (.len rfl rfl) ?_
    refine .p rfl rfl (.lt rfl rfl) ?_
    refine .p rfl rfl (.mv rfl) ?_
    refine .caseD 12 rfl (fun c12 => ?_) (fun c12 => ?_)
    · refine .p rfl rfl (.mv rfl) ?_
      refine .p rfl rfl (.lt rfl rfl) ?_
      refine .p rfl rfl (.pickT rfl rfl) ?_
      refine .p rfl rfl (.mv rfl) ?_
      refine .caseD 16 rfl (fun c16 => ?_) (fun c16 => ?_)
      · have hk : k < b.length := by omega
        obtain ⟨b1, o1, e1, _, hc⟩ := Sl.byteAt h hk
        cases e1
        have hgk : (b.getD k 0).toNat = b[k].toNat := by rw [getD_at hk]
        refine .p rfl rfl (.mv rfl) ?_
        refine .p rfl rfl (.mv rfl) ?_
        refine .p rfl rfl (.indexAddr1 rfl rfl rfl rfl (by omega)) ?_
        refine .p rfl rfl (.load rfl rfl rfl hc) ?_
        refine .p rfl rfl (.ge rfl rfl) ?_
        refine .p rfl rfl (.pickT rfl rfl) ?_
        refine .nil ?_
        exact (meet _ ⟨by intro hf; first | (cases hf; done) | (have hf := of_decide_eq_true hf; omega), by intro hf; first | (cases hf; done) | (intro hx; omega) | (have hf := of_decide_eq_false hf; omega)⟩).of ⟨rfl, rfl, rfl, trivial⟩
      · refine .skip rfl rfl ?_
        refine .skip rfl rfl ?_
        refine .skip rfl rfl ?_
        refine .skip rfl rfl ?_
        refine .skip rfl rfl ?_
        refine .p rfl rfl (.pickF rfl rfl) ?_
        refine .nil ?_
        exact (meet _ ⟨by intro hf; first | (cases hf; done) | (have hf := of_decide_eq_true hf; omega), by intro hf; first | (cases hf; done) | (intro hx; omega) | (have hf := of_decide_eq_false hf; omega)⟩).of ⟨rfl, rfl, rfl, trivial⟩
    · refine .skip rfl rfl ?_
      refine .skip rfl rfl ?_
      refine .p rfl rfl (.pickF rfl rfl) ?_
      refine .p rfl rfl (.mv rfl) ?_
      refine .skip rfl rfl ?_
      refine .skip rfl rfl ?_
      refine .skip rfl rfl ?_
      refine .skip rfl rfl ?_
      refine .skip rfl rfl ?_
      refine .p rfl rfl (.pickF rfl rfl) ?_
      refine .nil ?_
      exact (meet _ ⟨by intro hf; first | (cases hf; done) | (have hf := of_decide_eq_true hf; omega), by intro hf; first | (cases hf; done) | (intro hx; omega) | (have hf := of_decide_eq_false hf; omega)⟩).of ⟨rfl, rfl, rfl, trivial⟩
theorem RefCut_fn {w : World} {v : Value} {b : Bs} (h : tBytes.rep All w v b) : Fn Try.prog 85 [v] w (fun r w2 => ∃ v', r = .tuple #[str (cutF b).1, v', i64 (cutF b).2.2] ∧ Gr w2 v' (cutF b).2.1 w.heap.size ∧ Ext (fun _ => False) w w2) := by
  obtain ⟨a, cap, rfl, hcap⟩ := Sl.val h
  obtain ⟨hr1, hr2⟩ := readF_bd b
  have hlim := Sl.lim h
  simp only [Lim] at hlim
  refine Fn.enter (fun w => Try.call85 _ w) Try.func85 rfl ?_
  refine .seq (.region ?_)
  refine .p rfl rfl (.as rfl) ?_
  refine .p rfl rfl (.as rfl) ?_
  refine .p rfl rfl (.as rfl) ?_
  refine .nil (.code (.seq (.keep [(0, _)] ⟨rfl, trivial⟩ (.region ?_))))
  refine .p rfl rfl (.mv rfl) ?_
  refine .call (first := []) (captured := []) rfl rfl rfl rfl (RefRead_fn h) ?_
  rintro _ w12 ⟨rfl, X12⟩
  have z12 := X12.size
  refine .p rfl rfl (.mv rfl) ?_
  refine .p rfl rfl (.extract rfl rfl) ?_
  refine .p rfl rfl (.extract rfl rfl) ?_
  refine .p rfl rfl (.extract rfl rfl) ?_
  refine .p rfl rfl (.as rfl) ?_
  refine .p rfl rfl (.as rfl) ?_
  refine .p rfl rfl (.as rfl) ?_
  refine .nil (.code (.seq (.seq (.keep [(7, _), (6, _), (5, _), (0, _)] ⟨rfl, rfl, rfl, rfl, trivial⟩ (.region ?_)))))
  refine .p rfl rfl (.mv rfl) ?_
  refine .p rfl rfl (.ne rfl rfl) ?_
  refine .p rfl rfl (.mv rfl) ?_
  refine .caseD 18 rfl (fun c18 => ?_) (fun c18 => ?_)
  · refine .skip rfl rfl ?_
    refine .skip rfl rfl ?_
    refine .skip rfl rfl ?_
    refine .skip rfl rfl ?_
    refine .skip rfl rfl ?_
    refine .skip rfl rfl ?_
    refine .skip rfl rfl ?_
    refine .p rfl rfl (.pickT rfl rfl) ?_
    refine .nil (.code (.keep [(26, _), (6, _), (5, _), (0, _)] ⟨rfl, rfl, rfl, rfl, trivial⟩ (.condT rfl (.seq (.keep [] trivial (.region ?_))))))
    refine .p rfl rfl (.as rfl) ?_
    refine .p rfl rfl (.as rfl) ?_
    refine .p rfl rfl (.as rfl) ?_
    refine .nil (.code ?_)
    refine .ret _ rfl ?_
    exact ⟨_, by unfold cutF; rw [if_pos (.inl c18)]; rfl, by unfold cutF; rw [if_pos (.inl c18)]; exact OwnO.nil, X12⟩
  · refine .p rfl rfl (.mv rfl) ?_
    refine .p rfl rfl (.mv rfl) ?_
    refine .p rfl rfl (.len rfl rfl) ?_
    refine .p rfl rfl (.mv rfl) ?_
    refine .p rfl rfl (.sub rfl rfl (by omega)) ?_
    refine .p rfl rfl (.convU rfl rfl rfl (by omega)) ?_
    refine .p rfl rfl (.gt rfl rfl) ?_
    refine .p rfl rfl (.pickF rfl rfl) ?_
    refine .nil (.code (.keep [(26, _), (6, _), (5, _), (0, _)] ⟨rfl, rfl, rfl, rfl, trivial⟩ ?_))
    refine .condD rfl (fun c26 => ?_) (fun c26 => ?_)
    · refine .seq (.keep [] trivial (.region ?_))
      refine .p rfl rfl (.as rfl) ?_
      refine .p rfl rfl (.as rfl) ?_
      refine .p rfl rfl (.as rfl) ?_
      refine .nil (.code ?_)
      refine .ret _ rfl ?_
      exact ⟨_, by unfold cutF; rw [if_pos (.inr (by omega))]; rfl, by unfold cutF; rw [if_pos (.inr (by omega))]; exact OwnO.nil, X12⟩
    · obtain ⟨a34, c34, hv34, hc34, R34⟩ := Sl.cutE h ((readF b).2.1 + (readF b).1) b.length (by omega) (by omega)
      rw [List.take_length] at R34
      obtain ⟨a39, c39, hv39, hc39, R39⟩ := Sl.cutE h (readF b).2.1 ((readF b).2.1 + (readF b).1) (by omega) (by omega)
      refine .skip (.code (.seq (.keep [(6, _), (5, _), (0, _)] ⟨rfl, rfl, rfl, trivial⟩ (.region ?_))))
      refine .p rfl rfl (.mv rfl) ?_
      refine .p rfl rfl (.mv rfl) ?_
      refine .p rfl rfl (.convI rfl rfl rfl (by omega)) ?_
      refine .p rfl rfl (.cast (.add rfl rfl (by omega)) (show _ = i64 (((readF b).2.1 + (readF b).1 : Nat) : Int) from congrArg i64 (by omega))) ?_
      refine .p rfl rfl (.as rfl) ?_
      refine .nil (.code (.seq (.keep [(8, _), (6, _), (0, _)] ⟨rfl, rfl, rfl, trivial⟩ (.region ?_))))
      refine .p rfl rfl (.as rfl) ?_
      refine .nil (.code (.seq (.region ?_)))
      refine .p rfl rfl (.mv rfl) ?_
      refine .p rfl rfl (.mv rfl) ?_
      refine .p rfl rfl (.mv rfl) ?_
      refine .p rfl rfl (.cast (.cutLo (s := 1) rfl rfl rfl rfl (by omega)) (show cutV 1 a cap (((readF b).2.1 + (readF b).1 : Nat) : Int).toNat b.length = .slice a34 (b.length - ((readF b).2.1 + (readF b).1)) c34 by rw [Int.toNat_natCast]; exact hv34)) ?_
      refine .v rfl rfl (.appendLo (t := tByte) (Q := fun _ => False) (B := fun k => w.heap.size ≤ k) (eb := 1) rfl OwnO.nil (fun k hk => by have hk : w12.heap.size ≤ k := hk; show w.heap.size ≤ k; omega) rfl (Sl.holds (tBytes.ext0 R34 X12) (fun _ _ h => h)) rfl rfl rfl rfl rfl rfl rfl (by simp; omega) (by simp [Lim]; omega) (fun _ h _ => h.elim)) ?_
      rintro r35 w35 ⟨G35, Y35⟩
      refine .p rfl rfl (.as rfl) ?_
      refine .nil (.code (.seq (.keep [(9, _), (8, _), (6, _), (0, _)] ⟨rfl, rfl, rfl, rfl, trivial⟩ (.region ?_))))
      refine .p rfl rfl (.mv rfl) ?_
      refine .p rfl rfl (.mv rfl) ?_
      refine .p rfl rfl (.mv rfl) ?_
      refine .p rfl rfl (.cast (.cut (s := 1) rfl rfl rfl rfl rfl (by omega)) (show cutV 1 a cap ((readF b).2.1 : Int).toNat (((readF b).2.1 + (readF b).1 : Nat) : Int).toNat = .slice a39 ((readF b).2.1 + (readF b).1 - (readF b).2.1) c39 by rw [Int.toNat_natCast, Int.toNat_natCast]; exact hv39)) ?_
      refine .p rfl rfl (.bytesStr rfl (tBytes.ext R39 (X12.then Y35 (fun k hk _ => hk)) (fun _ _ _ h => h)) rfl rfl rfl) ?_
      refine .p rfl rfl (.mv rfl) ?_
      refine .p rfl rfl (.as rfl) ?_
      refine .p rfl rfl (.as rfl) ?_
      refine .p rfl rfl (.as rfl) ?_
      refine .nil (.code ?_)
      refine .ret _ rfl ?_
      have e : cutF b = ((b.drop (readF b).2.1).take (readF b).1, (b.drop (readF b).2.1).drop (readF b).1, 0) := by unfold cutF; rw [if_neg (fun h => h.elim c18 (by omega))]
      have e1 : (b.take ((readF b).2.1 + (readF b).1)).drop (readF b).2.1 = (b.drop (readF b).2.1).take (readF b).1 := by rw [List.drop_take, Nat.add_sub_cancel_left]
      rw [e, e1, List.drop_drop]
      exact ⟨_, rfl, by simpa using G35, X12.then Y35 (fun k hk _ => hk)⟩
end Go.Proofs.Ythkgadhamecnlaa
