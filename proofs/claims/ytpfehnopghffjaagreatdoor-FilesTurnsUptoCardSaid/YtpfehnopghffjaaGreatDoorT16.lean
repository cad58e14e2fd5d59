import Derived.Test.YtpfehnopghffjaaGreatDoorT05
import Derived.Test.YtpfehnopghffjaaGreatDoorT08
import Derived.Test.YtpfehnopghffjaaGreatDoorT14
import Derived.Test.YtpfehnopghffjaaGreatDoorT11
import Derived.Test.YtpfehnopghffjaaGreatDoorT15
set_option linter.unusedVariables false
set_option linter.unusedSimpArgs false
set_option maxRecDepth 20000
namespace Go.Proofs.YtpfehnopghffjaaGreatDoor
open Go
theorem readOk_no {b : Bs} {k : Nat} (hk : k ≤ b.length) (ha : ∀ j (h : j < b.length), j < k → 128 ≤ b[j].toNat) (h : b.length ≤ k ∨ 10 ≤ k) : ¬ readOk b := by
 have := lead_ge b k hk ha
 rintro ⟨h1, h2, _⟩
 omega
theorem readOk_iff {b : Bs} {k : Nat} (hk : k < b.length) (h9 : k < 10) (ha : ∀ j (h : j < b.length), j < k → 128 ≤ b[j].toNat) (hb : (b.getD k 0).toNat < 128) : readOk b ↔ (¬ (k = 9 ∧ 1 < (b.getD k 0).toNat) ∧ ¬ (0 < k ∧ (b.getD k 0).toNat = 0)) := by
 have e := lead_eq hk ha (by rw [getD_at hk] at hb; exact hb)
 unfold readOk
 rw [e]
 exact ⟨fun h => ⟨h.2.2.1, h.2.2.2⟩, fun h => ⟨hk, by omega, h.1, h.2⟩⟩
theorem leadN_of {b : Bs} {k : Nat} (hk : k < b.length) (ha : ∀ j (h : j < b.length), j < k → 128 ≤ b[j].toNat) (hb : (b.getD k 0).toNat < 128) : leadN b = k := lead_eq hk ha (by rw [getD_at hk] at hb; exact hb)
theorem RefRead_fn {w : World} {v : Value} {b : Bs} (h : tBytes.rep All w v b) : Fn Tryz.prog 117 [v] w (fun r w2 => r = .tuple #[.int .u64 ((readF b).1 : Nat), i64 ((readF b).2.1 : Nat), i64 (readF b).2.2] ∧ Ext (fun _ => False) w w2) := by
 obtain ⟨a, cap, rfl, hcap⟩ := Sl.val h
 have hlim := Sl.lim h
 simp only [Lim] at hlim
 refine Fn.enter (fun w => Tryz.call117 _ w) Tryz.func117 rfl ?_
 refine .seq (.region ?_)
 refine .p rfl rfl (.as rfl) (.p rfl rfl (.as rfl) (.p rfl rfl (.as rfl) (.nil (.code (.seq (.keep [(0, _)] ⟨rfl, trivial⟩ (.region ?_)))))))
 refine .p rfl rfl (.as rfl) (.nil (.code (.seq (.block ?_))))
 refine .loop (S := Nat) (fun s => [(0, .slice a b.length cap), (5, i64 s)]) (fun s => w) (fun s => s ≤ b.length ∧ s ≤ 10 ∧ ∀ j (h : j < b.length), j < s → 128 ≤ b[j].toNat) (fun s => b.length - s) 0 ⟨rfl, rfl, trivial⟩ rfl ⟨Nat.zero_le _, Nat.zero_le _, fun j _ h => absurd h (Nat.not_lt_zero _)⟩ ?_
 rintro k J ⟨hk1, hk10, ha⟩ again
 refine .seq (.seq ?_)
 refine .meet (S := Bool) (fun s => [(0, .slice a b.length cap), (5, i64 k), (22, .bool s)]) (fun s => w) (fun s => (s = true → k < b.length ∧ k < 10 ∧ 128 ≤ (b.getD k 0).toNat) ∧ (s = false → ¬ (k < b.length ∧ k < 10 ∧ 128 ≤ (b.getD k 0).toNat))) ?_ ?_
 ·rintro q hq
  refine .code ?_
  refine .cond rfl (fun c22 => ?_) (fun c22 => ?_)
  ·refine .skip (.code (.block (.keep [(0, _), (5, _)] ⟨rfl, rfl, trivial⟩ (.region ?_))))
   refine .p rfl rfl (.mv rfl) (.p rfl rfl (.add rfl rfl (by omega)) (.p rfl rfl (.as rfl) (.nil (.blk ?_))))
   obtain ⟨g1, g2, g3⟩ := hq.1 c22
   exact (again (k + 1) ⟨by omega, by omega, fun j hj hlt => by
    rcases Nat.lt_or_ge j k with h2 | h2
    ·exact ha j hj h2
    ·have : j = k := by omega
     subst this
     rw [getD_at hj] at g3
     exact g3⟩ (by show _ - (k + 1) < _ - k; omega)).of ⟨rfl, rfl, trivial⟩
  ·have hex := hq.2 c22
   have hno := readOk_no (b := b) (k := k) hk1 ha
   have hyes : k < b.length → k < 10 → (readOk b ↔ (¬ (k = 9 ∧ 1 < (b.getD k 0).toNat) ∧ ¬ (0 < k ∧ (b.getD k 0).toNat = 0))) := fun h1 h2 => readOk_iff h1 h2 ha (by omega)
   refine .exit rfl (.code (.seq (.seq (.keep [(0, _), (5, _)] ⟨rfl, rfl, trivial⟩ ?_))))
   refine .meet (S := Bool) (fun s => [(0, .slice a b.length cap), (5, i64 k), (53, .bool s)]) (fun s => w) (fun s => s = decide (¬ readOk b)) ?_ ?_
   ·rintro _ rfl
    refine .code ?_
    refine .condD rfl (fun c53 => ?_) (fun c53 => ?_)
    ·refine .seq (.keep [] trivial (.region ?_))
     refine .p rfl rfl (.as rfl) (.p rfl rfl (.as rfl) (.p rfl rfl (.as rfl) (.nil (.code ?_))))
     refine .ret _ rfl ?_
     have e : readF b = (0, 0, 8) := by unfold readF; rw [if_neg c53]
     rw [e]
     exact ⟨rfl, .refl _⟩
    ·have hok : readOk b := Decidable.not_not.1 c53
     have hkl : k < b.length := by have := hno; rcases Nat.lt_or_ge k b.length with h | h; exact h; exact absurd hok (hno (.inl h))
     have hk9 : k < 10 := by rcases Nat.lt_or_ge k 10 with h | h; exact h; exact absurd hok (hno (.inr h))
     have hlead := leadN_of hkl ha (by omega)
     have hsb := (sum_bd b (i := k) (by omega) (fun e => by have := ((hyes hkl hk9).1 hok).1; omega)).2
     refine .skip (.code (.seq (.keep [(0, _), (5, _)] ⟨rfl, rfl, trivial⟩ (.region ?_))))
     refine .p rfl rfl (.as rfl) (.nil (.code (.seq (.seq (.region ?_)))))
     refine .p rfl rfl (.mv rfl) (.p rfl rfl (.as rfl) (.nil (.code (.block (.keep [(7, _), (6, _), (0, _), (5, _)] ⟨rfl, rfl, rfl, rfl, trivial⟩ ?_)))))
     refine .loop (S := Nat × Nat × Int) (fun s => [(0, .slice a b.length cap), (5, i64 k), (6, .int .u64 (s.2.1 : Nat)), (7, i64 s.2.2)]) (fun s => w) (fun s => s.1 ≤ k + 1 ∧ sumTo b (k + 1) = sumTo b s.1 + s.2.1 * 128 ^ s.1 ∧ s.2.2 = (s.1 : Int) - 1) (fun s => s.1) (k + 1, 0, k) ⟨rfl, rfl, rfl, rfl, trivial⟩ rfl ⟨Nat.le_refl _, by simp, by show (k : Int) = ((k + 1 : Nat) : Int) - 1; omega⟩ ?_
     rintro ⟨s, n, z⟩ J ⟨hs, hsum, hz⟩ again
     simp only at hs hsum hz
     change G _ [(0, .slice a b.length cap), (5, i64 k), (6, .int .u64 (n : Nat)), (7, i64 z)] _ _ w
     refine .seq (.seq (.region ?_))
     refine .p rfl rfl (.mv rfl) (.p rfl rfl (.ge rfl rfl) (.nil (.code (.keep [(56, _), (0, _), (5, _), (6, _), (7, _)] ⟨rfl, rfl, rfl, rfl, rfl, trivial⟩ ?_))))
     refine .condD rfl (fun c56 => ?_) (fun c56 => ?_)
     ·obtain ⟨t, rfl⟩ : ∃ t, s = t + 1 := ⟨s - 1, by omega⟩
      have hkt : t < b.length := by omega
      obtain ⟨b1, o1, e1, _, hc6⟩ := Sl.byteAt h hkt
      cases e1
      obtain rfl : z = (t : Int) := by omega
      have hgt : (b.getD t 0).toNat = b[t].toNat := by rw [getD_at hkt]
      have hst : sumTo b (k + 1) = sumTo b t + (n * 128 + b[t].toNat % 128) * 128 ^ t := by rw [hsum, sumTo, hgt, Nat.pow_succ, Nat.add_mul, Nat.mul_assoc, Nat.mul_comm 128 (128 ^ t)]; omega
      have hnb : n * 128 + b[t].toNat % 128 < 18446744073709551616 := by have := Nat.le_mul_of_pos_right (n * 128 + b[t].toNat % 128) (Nat.pow_pos (n := t) (show 0 < 128 by decide)); omega
      have hmod : (b[t] % 128).toNat = b[t].toNat % 128 := by rw [UInt8.toNat_mod]; rfl
      have e7 : ((t : Nat) : Int).toNat = t := by omega
      refine .skip (.code (.seq (.block (.keep [(0, _), (5, _), (6, _), (7, _)] ⟨rfl, rfl, rfl, rfl, trivial⟩ (.region ?_)))))
      refine .p rfl rfl (.mv rfl) (.p rfl rfl (.mulU rfl rfl (by omega)) (.p rfl rfl (.mv rfl) (.p rfl rfl (.mv rfl) (.p rfl rfl (.indexAddr1 rfl rfl rfl rfl (by omega)) (.p rfl rfl (.load rfl rfl rfl (by rw [e7]; exact hc6)) ?_)))))
      refine .p rfl rfl (.rem8 (b := 128) rfl rfl (by decide)) (.p rfl rfl (.conv8_U rfl rfl rfl) (.p rfl rfl (.cast (.addU rfl rfl (by omega)) (show _ = Value.int .u64 ((n * 128 + b[t].toNat % 128 : Nat) : Int) by rw [hmod]; rfl)) (.p rfl rfl (.as rfl) (.nil (.blk (.code (.keep [(6, _), (0, _), (5, _), (7, _)] ⟨rfl, rfl, rfl, rfl, trivial⟩ (.region ?_))))))))
      refine .p rfl rfl (.mv rfl) (.p rfl rfl (.sub rfl rfl (by omega)) (.p rfl rfl (.as rfl) (.nil ?_)))
      exact (again (t, n * 128 + b[t].toNat % 128, (t : Int) - 1) ⟨by show t ≤ k + 1; omega, hst, rfl⟩ (by show t < t + 1; omega)).of ⟨rfl, rfl, rfl, rfl, trivial⟩
     ·refine .exit rfl (.code (.seq (.keep [(5, _), (6, _)] ⟨rfl, rfl, trivial⟩ (.region ?_))))
      refine .p rfl rfl (.mv rfl) (.p rfl rfl (.mv rfl) (.p rfl rfl (.add rfl rfl (by omega)) (.p rfl rfl (.as rfl) (.p rfl rfl (.as rfl) (.p rfl rfl (.as rfl) (.nil (.code ?_)))))))
      refine .ret _ rfl ?_
      have h0 : s = 0 := by omega
      subst h0
      have e : readF b = (sumTo b (k + 1), k + 1, 0) := by unfold readF; rw [if_pos hok, hlead]
      have e2 : sumTo b (k + 1) = n := by rw [hsum]; simp [sumTo]
      rw [e, e2]
      exact ⟨rfl, .refl _⟩
   ·intro meet
    refine .region (.p rfl rfl (.mv rfl) (.p rfl rfl (.mv rfl) (.p rfl rfl (.len rfl rfl) (.p rfl rfl (.ge rfl rfl) (.p rfl rfl (.mv rfl) ?_)))))
    refine .caseD 29 rfl (fun c29 => ?_) (fun c29 => ?_)
    ·refine .skip rfl rfl (.skip rfl rfl (.p rfl rfl (.pickT rfl rfl) (.p rfl rfl (.mv rfl) (.skip rfl rfl (.skip rfl rfl (.skip rfl rfl (.skip rfl rfl (.skip rfl rfl (.skip rfl rfl (.skip rfl rfl (.skip rfl rfl (.p rfl rfl (.pickT rfl rfl) (.p rfl rfl (.mv rfl) ?_)))))))))))))
     refine .skip rfl rfl (.skip rfl rfl (.skip rfl rfl (.skip rfl rfl (.skip rfl rfl (.skip rfl rfl (.skip rfl rfl (.skip rfl rfl (.skip rfl rfl (.p rfl rfl (.pickT rfl rfl) (.nil ?_))))))))))
     exact (meet _ (by first | exact (decide_eq_true (hno (by omega))).symm | exact (decide_eq_true (by rw [hyes (by omega) (by omega)]; omega)).symm | exact (decide_eq_false (by rw [hyes (by omega) (by omega)]; omega)).symm | exact decide_eq_decide.2 (by rw [hyes (by omega) (by omega)]; omega))).of ⟨rfl, rfl, rfl, trivial⟩
    ·refine .p rfl rfl (.mv rfl) (.p rfl rfl (.ge rfl rfl) (.p rfl rfl (.pickF rfl rfl) (.p rfl rfl (.mv rfl) ?_)))
     refine .caseD 33 rfl (fun c33 => ?_) (fun c33 => ?_)
     ·refine .skip rfl rfl (.skip rfl rfl (.skip rfl rfl (.skip rfl rfl (.skip rfl rfl (.skip rfl rfl (.skip rfl rfl (.skip rfl rfl (.p rfl rfl (.pickT rfl rfl) (.p rfl rfl (.mv rfl) (.skip rfl rfl (.skip rfl rfl (.skip rfl rfl (.skip rfl rfl ?_)))))))))))))
      refine .skip rfl rfl (.skip rfl rfl (.skip rfl rfl (.skip rfl rfl (.skip rfl rfl (.p rfl rfl (.pickT rfl rfl) (.nil ?_))))))
      exact (meet _ (by first | exact (decide_eq_true (hno (by omega))).symm | exact (decide_eq_true (by rw [hyes (by omega) (by omega)]; omega)).symm | exact (decide_eq_false (by rw [hyes (by omega) (by omega)]; omega)).symm | exact decide_eq_decide.2 (by rw [hyes (by omega) (by omega)]; omega))).of ⟨rfl, rfl, rfl, trivial⟩
     ·refine .p rfl rfl (.mv rfl) (.p rfl rfl (.eq rfl rfl) (.p rfl rfl (.mv rfl) ?_))
      refine .caseD 36 rfl (fun c36 => ?_) (fun c36 => ?_)
      ·have h99 : k = 9 := by omega
       have hk : 9 < b.length := by omega
       obtain ⟨b1, o1, e1, _, hc9⟩ := Sl.byteAt h hk
       cases e1
       have hgk : (b.getD k 0).toNat = b[9].toNat := by rw [h99, getD_at hk]
       refine .p rfl rfl (.mv rfl) (.p rfl rfl (.indexAddr1 rfl rfl rfl rfl (by omega)) (.p rfl rfl (.load rfl rfl rfl hc9) (.p rfl rfl (.gt rfl rfl) (.p rfl rfl (.pickT rfl rfl) (.p rfl rfl (.pickF rfl rfl) (.p rfl rfl (.mv rfl) ?_))))))
       refine .caseD 43 rfl (fun c43 => ?_) (fun c43 => ?_)
       ·refine .skip rfl rfl (.skip rfl rfl (.skip rfl rfl (.skip rfl rfl (.skip rfl rfl (.skip rfl rfl (.skip rfl rfl (.skip rfl rfl (.skip rfl rfl (.p rfl rfl (.pickT rfl rfl) (.nil ?_))))))))))
        exact (meet _ (by first | exact (decide_eq_true (hno (by omega))).symm | exact (decide_eq_true (by rw [hyes (by omega) (by omega)]; omega)).symm | exact (decide_eq_false (by rw [hyes (by omega) (by omega)]; omega)).symm | exact decide_eq_decide.2 (by rw [hyes (by omega) (by omega)]; omega))).of ⟨rfl, rfl, rfl, trivial⟩
       ·refine .p rfl rfl (.mv rfl) (.p rfl rfl (.gt rfl rfl) (.p rfl rfl (.mv rfl) ?_))
        refine .caseD 46 rfl (fun c46 => ?_) (fun c46 => ?_)
        ·have hk : k < b.length := by omega
         obtain ⟨b1, o1, e1, _, hc5⟩ := Sl.byteAt h hk
         cases e1
         have hgk5 : (b.getD k 0).toNat = b[k].toNat := by rw [getD_at hk]
         refine .p rfl rfl (.mv rfl) (.p rfl rfl (.mv rfl) (.p rfl rfl (.indexAddr1 rfl rfl rfl rfl (by omega)) (.p rfl rfl (.load rfl rfl rfl hc5) (.p rfl rfl (.eq rfl rfl) (.p rfl rfl (.pickT rfl rfl) (.p rfl rfl (.pickF rfl rfl) (.nil ?_)))))))
         exact (meet _ (by first | exact (decide_eq_true (hno (by omega))).symm | exact (decide_eq_true (by rw [hyes (by omega) (by omega)]; omega)).symm | exact (decide_eq_false (by rw [hyes (by omega) (by omega)]; omega)).symm | exact decide_eq_decide.2 (by rw [hyes (by omega) (by omega)]; omega))).of ⟨rfl, rfl, rfl, trivial⟩
        ·refine .skip rfl rfl (.skip rfl rfl (.skip rfl rfl (.skip rfl rfl (.skip rfl rfl (.p rfl rfl (.pickF rfl rfl) (.p rfl rfl (.pickF rfl rfl) (.nil ?_)))))))
         exact (meet _ (by first | exact (decide_eq_true (hno (by omega))).symm | exact (decide_eq_true (by rw [hyes (by omega) (by omega)]; omega)).symm | exact (decide_eq_false (by rw [hyes (by omega) (by omega)]; omega)).symm | exact decide_eq_decide.2 (by rw [hyes (by omega) (by omega)]; omega))).of ⟨rfl, rfl, rfl, trivial⟩
      ·refine .skip rfl rfl (.skip rfl rfl (.skip rfl rfl (.skip rfl rfl (.p rfl rfl (.pickF rfl rfl) (.p rfl rfl (.pickF rfl rfl) (.p rfl rfl (.mv rfl) (.p rfl rfl (.mv rfl) (.p rfl rfl (.gt rfl rfl) (.p rfl rfl (.mv rfl) ?_)))))))))
       refine .caseD 46 rfl (fun c46 => ?_) (fun c46 => ?_)
       ·have hk : k < b.length := by omega
        obtain ⟨b1, o1, e1, _, hc5⟩ := Sl.byteAt h hk
        cases e1
        have hgk5 : (b.getD k 0).toNat = b[k].toNat := by rw [getD_at hk]
        refine .p rfl rfl (.mv rfl) (.p rfl rfl (.mv rfl) (.p rfl rfl (.indexAddr1 rfl rfl rfl rfl (by omega)) (.p rfl rfl (.load rfl rfl rfl hc5) (.p rfl rfl (.eq rfl rfl) (.p rfl rfl (.pickT rfl rfl) (.p rfl rfl (.pickF rfl rfl) (.nil ?_)))))))
        exact (meet _ (by first | exact (decide_eq_true (hno (by omega))).symm | exact (decide_eq_true (by rw [hyes (by omega) (by omega)]; omega)).symm | exact (decide_eq_false (by rw [hyes (by omega) (by omega)]; omega)).symm | exact decide_eq_decide.2 (by rw [hyes (by omega) (by omega)]; omega))).of ⟨rfl, rfl, rfl, trivial⟩
       ·refine .skip rfl rfl (.skip rfl rfl (.skip rfl rfl (.skip rfl rfl (.skip rfl rfl (.p rfl rfl (.pickF rfl rfl) (.p rfl rfl (.pickF rfl rfl) (.nil ?_)))))))
        exact (meet _ (by first | exact (decide_eq_true (hno (by omega))).symm | exact (decide_eq_true (by rw [hyes (by omega) (by omega)]; omega)).symm | exact (decide_eq_false (by rw [hyes (by omega) (by omega)]; omega)).symm | exact decide_eq_decide.2 (by rw [hyes (by omega) (by omega)]; omega))).of ⟨rfl, rfl, rfl, trivial⟩
 ·intro meet
  refine .region (.p rfl rfl (.mv rfl) (.p rfl rfl (.mv rfl) (.p rfl rfl (.len rfl rfl) (.p rfl rfl (.lt rfl rfl) (.p rfl rfl (.mv rfl) ?_)))))
  refine .caseD 12 rfl (fun c12 => ?_) (fun c12 => ?_)
  ·refine .p rfl rfl (.mv rfl) (.p rfl rfl (.lt rfl rfl) (.p rfl rfl (.pickT rfl rfl) (.p rfl rfl (.mv rfl) ?_)))
   refine .caseD 16 rfl (fun c16 => ?_) (fun c16 => ?_)
   ·have hk : k < b.length := by omega
    obtain ⟨b1, o1, e1, _, hc⟩ := Sl.byteAt h hk
    cases e1
    have hgk : (b.getD k 0).toNat = b[k].toNat := by rw [getD_at hk]
    refine .p rfl rfl (.mv rfl) (.p rfl rfl (.mv rfl) (.p rfl rfl (.indexAddr1 rfl rfl rfl rfl (by omega)) (.p rfl rfl (.load rfl rfl rfl hc) (.p rfl rfl (.ge rfl rfl) (.p rfl rfl (.pickT rfl rfl) (.nil ?_))))))
    exact (meet _ ⟨by intro hf; first | (cases hf; done) | (have hf := of_decide_eq_true hf; omega), by intro hf; first | (cases hf; done) | (intro hx; omega) | (have hf := of_decide_eq_false hf; omega)⟩).of ⟨rfl, rfl, rfl, trivial⟩
   ·refine .skip rfl rfl (.skip rfl rfl (.skip rfl rfl (.skip rfl rfl (.skip rfl rfl (.p rfl rfl (.pickF rfl rfl) (.nil ?_))))))
    exact (meet _ ⟨by intro hf; first | (cases hf; done) | (have hf := of_decide_eq_true hf; omega), by intro hf; first | (cases hf; done) | (intro hx; omega) | (have hf := of_decide_eq_false hf; omega)⟩).of ⟨rfl, rfl, rfl, trivial⟩
  ·refine .skip rfl rfl (.skip rfl rfl (.p rfl rfl (.pickF rfl rfl) (.p rfl rfl (.mv rfl) (.skip rfl rfl (.skip rfl rfl (.skip rfl rfl (.skip rfl rfl (.skip rfl rfl (.p rfl rfl (.pickF rfl rfl) (.nil ?_))))))))))
   exact (meet _ ⟨by intro hf; first | (cases hf; done) | (have hf := of_decide_eq_true hf; omega), by intro hf; first | (cases hf; done) | (intro hx; omega) | (have hf := of_decide_eq_false hf; omega)⟩).of ⟨rfl, rfl, rfl, trivial⟩
theorem RefCut_fn {w : World} {v : Value} {b : Bs} (h : tBytes.rep All w v b) : Fn Tryz.prog 63 [v] w (fun r w2 => ∃ v', r = .tuple #[str (cutF b).1, v', i64 (cutF b).2.2] ∧ Gr w2 v' (cutF b).2.1 w.heap.size ∧ Ext (fun _ => False) w w2) := by
 obtain ⟨a, cap, rfl, hcap⟩ := Sl.val h
 obtain ⟨hr1, hr2⟩ := readF_bd b
 have hlim := Sl.lim h
 simp only [Lim] at hlim
 refine Fn.enter (fun w => Tryz.call63 _ w) Tryz.func63 rfl ?_
 refine .seq (.region ?_)
 refine .p rfl rfl (.as rfl) (.p rfl rfl (.as rfl) (.p rfl rfl (.as rfl) (.nil (.code (.seq (.keep [(0, _)] ⟨rfl, trivial⟩ (.region ?_)))))))
 refine .p rfl rfl (.mv rfl) (.call (first := []) (captured := []) rfl rfl rfl rfl (RefRead_fn h) ?_)
 rintro _ w12 ⟨rfl, X12⟩
 have z12 := X12.size
 refine .p rfl rfl (.mv rfl) (.p rfl rfl (.extract rfl rfl) (.p rfl rfl (.extract rfl rfl) (.p rfl rfl (.extract rfl rfl) (.p rfl rfl (.as rfl) (.p rfl rfl (.as rfl) (.p rfl rfl (.as rfl) (.nil (.code (.seq (.seq (.keep [(7, _), (6, _), (5, _), (0, _)] ⟨rfl, rfl, rfl, rfl, trivial⟩ (.region ?_))))))))))))
 refine .p rfl rfl (.mv rfl) (.p rfl rfl (.ne rfl rfl) (.p rfl rfl (.mv rfl) ?_))
 refine .caseD 18 rfl (fun c18 => ?_) (fun c18 => ?_)
 ·refine .skip rfl rfl (.skip rfl rfl (.skip rfl rfl (.skip rfl rfl (.skip rfl rfl (.skip rfl rfl (.skip rfl rfl (.p rfl rfl (.pickT rfl rfl) (.nil (.code (.keep [(26, _), (6, _), (5, _), (0, _)] ⟨rfl, rfl, rfl, rfl, trivial⟩ (.condT rfl (.seq (.keep [] trivial (.region ?_))))))))))))))
  refine .p rfl rfl (.as rfl) (.p rfl rfl (.as rfl) (.p rfl rfl (.as rfl) (.nil (.code ?_))))
  refine .ret _ rfl ?_
  exact ⟨_, by unfold cutF; rw [if_pos (.inl c18)]; rfl, by unfold cutF; rw [if_pos (.inl c18)]; exact OwnO.nil, X12⟩
 ·refine .p rfl rfl (.mv rfl) (.p rfl rfl (.mv rfl) (.p rfl rfl (.len rfl rfl) (.p rfl rfl (.mv rfl) (.p rfl rfl (.sub rfl rfl (by omega)) (.p rfl rfl (.convU rfl rfl rfl (by omega)) (.p rfl rfl (.gt rfl rfl) (.p rfl rfl (.pickF rfl rfl) (.nil (.code (.keep [(26, _), (6, _), (5, _), (0, _)] ⟨rfl, rfl, rfl, rfl, trivial⟩ ?_))))))))))
  refine .condD rfl (fun c26 => ?_) (fun c26 => ?_)
  ·refine .seq (.keep [] trivial (.region ?_))
   refine .p rfl rfl (.as rfl) (.p rfl rfl (.as rfl) (.p rfl rfl (.as rfl) (.nil (.code ?_))))
   refine .ret _ rfl ?_
   exact ⟨_, by unfold cutF; rw [if_pos (.inr (by omega))]; rfl, by unfold cutF; rw [if_pos (.inr (by omega))]; exact OwnO.nil, X12⟩
  ·obtain ⟨a34, c34, hv34, hc34, R34⟩ := Sl.cutE h ((readF b).2.1 + (readF b).1) b.length (by omega) (by omega)
   rw [List.take_length] at R34
   obtain ⟨a39, c39, hv39, hc39, R39⟩ := Sl.cutE h (readF b).2.1 ((readF b).2.1 + (readF b).1) (by omega) (by omega)
   refine .skip (.code (.seq (.keep [(6, _), (5, _), (0, _)] ⟨rfl, rfl, rfl, trivial⟩ (.region ?_))))
   refine .p rfl rfl (.mv rfl) (.p rfl rfl (.mv rfl) (.p rfl rfl (.convI rfl rfl rfl (by omega)) (.p rfl rfl (.cast (.add rfl rfl (by omega)) (show _ = i64 (((readF b).2.1 + (readF b).1 : Nat) : Int) from congrArg i64 (by omega))) (.p rfl rfl (.as rfl) (.nil (.code (.seq (.keep [(8, _), (6, _), (0, _)] ⟨rfl, rfl, rfl, trivial⟩ (.region ?_)))))))))
   refine .p rfl rfl (.as rfl) (.nil (.code (.seq (.region ?_))))
   refine .p rfl rfl (.mv rfl) (.p rfl rfl (.mv rfl) (.p rfl rfl (.mv rfl) (.p rfl rfl (.cast (.cutLo (s := 1) rfl rfl rfl rfl (by omega)) (show cutV 1 a cap (((readF b).2.1 + (readF b).1 : Nat) : Int).toNat b.length = .slice a34 (b.length - ((readF b).2.1 + (readF b).1)) c34 by rw [Int.toNat_natCast]; exact hv34)) (.v rfl rfl (.appendLo (t := tByte) (Q := fun _ => False) (B := fun k => w.heap.size ≤ k) (eb := 1) rfl OwnO.nil (fun k hk => by have hk : w12.heap.size ≤ k := hk; show w.heap.size ≤ k; omega) rfl (Sl.holds (tBytes.ext0 R34 X12) (fun _ _ h => h)) rfl rfl rfl rfl rfl rfl rfl (by simp; omega) (by simp [Lim]; omega) (fun _ h _ => h.elim)) ?_))))
   rintro r35 w35 ⟨G35, Y35⟩
   refine .p rfl rfl (.as rfl) (.nil (.code (.seq (.keep [(9, _), (8, _), (6, _), (0, _)] ⟨rfl, rfl, rfl, rfl, trivial⟩ (.region ?_)))))
   refine .p rfl rfl (.mv rfl) (.p rfl rfl (.mv rfl) (.p rfl rfl (.mv rfl) (.p rfl rfl (.cast (.cut (s := 1) rfl rfl rfl rfl rfl (by omega)) (show cutV 1 a cap ((readF b).2.1 : Int).toNat (((readF b).2.1 + (readF b).1 : Nat) : Int).toNat = .slice a39 ((readF b).2.1 + (readF b).1 - (readF b).2.1) c39 by rw [Int.toNat_natCast, Int.toNat_natCast]; exact hv39)) (.p rfl rfl (.bytesStr rfl (tBytes.ext R39 (X12.then Y35 (fun k hk _ => hk)) (fun _ _ _ h => h)) rfl rfl rfl) (.p rfl rfl (.mv rfl) (.p rfl rfl (.as rfl) (.p rfl rfl (.as rfl) (.p rfl rfl (.as rfl) (.nil (.code ?_))))))))))
   refine .ret _ rfl ?_
   have e : cutF b = ((b.drop (readF b).2.1).take (readF b).1, (b.drop (readF b).2.1).drop (readF b).1, 0) := by unfold cutF; rw [if_neg (fun h => h.elim c18 (by omega))]
   have e1 : (b.take ((readF b).2.1 + (readF b).1)).drop (readF b).2.1 = (b.drop (readF b).2.1).take (readF b).1 := by rw [List.drop_take, Nat.add_sub_cancel_left]
   rw [e, e1, List.drop_drop]
   exact ⟨_, rfl, by simpa using G35, X12.then Y35 (fun k hk _ => hk)⟩
end Go.Proofs.YtpfehnopghffjaaGreatDoor
namespace Go.Proofs.YtpfehnopghffjaaGreatDoor
open Go
theorem RefGet_fn {w : World} {v : Value} {l : Bs} (h : tBytes.rep All w v l) : Fn Tryz.prog 61 [v] w (fun r w2 => r = .tuple #[.int .u64 (if l.length = 8 then getTo l 8 else 0 : Nat), i64 (if l.length = 8 then 0 else 8)] ∧ Same w w2) := by
 obtain ⟨a, cap, rfl, hcap⟩ := Sl.val h
 refine Fn.enter (fun w => Tryz.call61 _ w) Tryz.func61 rfl ?_
 refine .seq (.region ?_)
 refine .p rfl rfl (.as rfl) (.p rfl rfl (.as rfl) (.nil (.code (.seq (.seq (.keep [(0, _)] ⟨rfl, trivial⟩ (.region ?_)))))))
 refine .p rfl rfl (.mv rfl) (.p rfl rfl (.len rfl rfl) (.p rfl rfl (.ne rfl rfl) (.nil (.code (.keep [(8, _), (0, _)] ⟨rfl, rfl, trivial⟩ ?_)))))
 refine .condD rfl (fun c8 => ?_) (fun c8 => ?_)
 ·refine .seq (.keep [] trivial (.region ?_))
  refine .p rfl rfl (.as rfl) (.p rfl rfl (.as rfl) (.nil (.code ?_)))
  refine .ret _ rfl ?_
  rw [if_neg (by omega), if_neg (by omega)]
  exact ⟨rfl, .refl _⟩
 ·have hl8 : l.length = 8 := by omega
  refine .skip (.code (.seq (.keep [(0, _)] ⟨rfl, trivial⟩ (.region ?_))))
  refine .p rfl rfl (.as rfl) (.nil (.code (.seq (.seq (.region ?_)))))
  refine .p rfl rfl (.as rfl) (.nil (.code (.block ?_)))
  refine .loop (S := Nat) (fun s => [(5, i64 (7 - (s : Int))), (0, .slice a l.length cap), (4, .int .u64 (hiTo l s : Nat))]) (fun s => w) (fun s => s ≤ 8) (fun s => 8 - s) 0 ⟨rfl, rfl, rfl, trivial⟩ rfl (Nat.zero_le _) ?_
  intro j J hj again
  refine .seq (.seq (.region ?_))
  refine .p rfl rfl (.mv rfl) (.p rfl rfl (.ge rfl rfl) (.nil (.code (.keep [(10, _), (5, _), (0, _), (4, _)] ⟨rfl, rfl, rfl, rfl, trivial⟩ ?_))))
  refine .condD rfl (fun c10 => ?_) (fun c10 => ?_)
  ·have hj8 : j < 8 := by omega
   have hk : 7 - j < l.length := by omega
   obtain ⟨b, o, rfl, _, hc⟩ := Sl.byteAt h hk
   have e7 : (7 - (j : Int)).toNat = 7 - j := by omega
   have hgd : l.getD (7 - j) 0 = l[7 - j] := by rw [List.getD, List.getElem?_eq_getElem hk]; rfl
   have hlt := hiTo_bd l (j := j + 1) (by omega)
   rw [hiTo, hgd] at hlt
   have hbl := l[7 - j].toNat_lt
   refine .skip (.code (.seq (.block (.keep [(5, _), (0, _), (4, _)] ⟨rfl, rfl, rfl, trivial⟩ (.region ?_)))))
   refine .p rfl rfl (.mv rfl) (.p rfl rfl (.mulU rfl rfl (by omega)) (.p rfl rfl (.mv rfl) (.p rfl rfl (.mv rfl) (.p rfl rfl (.indexAddr1 rfl rfl rfl rfl (by omega)) (.p rfl rfl (.load rfl rfl rfl (by rw [e7]; exact hc)) ?_)))))
   refine .p rfl rfl (.conv8_U rfl rfl rfl) (.p rfl rfl (.cast (.addU rfl rfl (by omega)) (by show Value.int .u64 _ = Value.int .u64 ((hiTo l (j + 1) : Nat) : Int); rw [hiTo, hgd]; simp)) (.p rfl rfl (.as rfl) (.nil (.blk (.code (.keep [(4, _), (5, _), (0, _)] ⟨rfl, rfl, rfl, trivial⟩ (.region ?_)))))))
   refine .p rfl rfl (.mv rfl) (.p rfl rfl (.sub rfl rfl (by omega)) (.p rfl rfl (.as rfl) (.nil ?_)))
   exact (again (j + 1) (by show j + 1 ≤ 8; omega) (by show 8 - (j + 1) < 8 - j; omega)).of ⟨by show some (i64 (7 - (j : Int) - 1)) = some (i64 (7 - ((j + 1 : Nat) : Int))); congr 2; omega, rfl, rfl, trivial⟩
  ·refine .exit rfl (.code (.seq (.keep [(4, _)] ⟨rfl, trivial⟩ (.region ?_))))
   refine .p rfl rfl (.mv rfl) (.p rfl rfl (.as rfl) (.p rfl rfl (.as rfl) (.nil (.code ?_))))
   refine .ret _ rfl ?_
   obtain rfl : j = 8 := by omega
   rw [if_pos hl8, if_pos hl8, ← hiTo_8]
   exact ⟨rfl, .refl _⟩
end Go.Proofs.YtpfehnopghffjaaGreatDoor
namespace Go.Proofs.YtpfehnopghffjaaGreatDoor
open Go
open room files
namespace files
def RB (w : World) (p : Nat) (P : Nat → Prop) (s : RS) : Prop := ∃ v, Blk w p 120 [v, .bool s.2] ∧ tBytes.rep P w v s.1
theorem RB.ext {S : Nat → Prop} {w w' : World} {p : Nat} {P : Nat → Prop} {s : RS} (h : RB w p P s) (hx : Ext S w w') (hp : ¬ S p) (hs : ∀ k, P k → k < w.heap.size → ¬ S k) : RB w' p P s := by
 obtain ⟨v, h1, h2⟩ := h
 exact ⟨v, h1.ext hx hp, tBytes.ext h2 hx hs⟩
theorem RB.lt {w : World} {p : Nat} {P : Nat → Prop} {s : RS} (h : RB w p P s) : p < w.heap.size := by obtain ⟨v, h1, _⟩ := h; exact h1.lt
structure RX (w0 : World) (c2 c9 p : Nat) (g : Int) (R B Q : Nat → Prop) (acc : List File) (vF : Value) (rs : RS) (W : World) : Prop where
 b2 : Blk W c2 24 [i64 0, .slice none 0 0]
 rb : RB W p R rs
 b9 : Blk W c9 24 [i64 g, vF]
 own : OwnO tFileO Q 28 W vF acc B
 ext : Ext (fun _ => False) w0 W
 sR : ∀ k, R k → ¬ (k = c2 ∨ k = c9 ∨ k = p) ∧ k < W.heap.size ∧ ¬ B k ∧ ¬ Q k
 sB : ∀ k, B k → ¬ (k = c2 ∨ k = c9 ∨ k = p) ∧ k < W.heap.size ∧ ¬ Q k ∧ w0.heap.size ≤ k
 sQ : ∀ k, Q k → ¬ (k = c2 ∨ k = c9 ∨ k = p) ∧ k < W.heap.size ∧ w0.heap.size ≤ k
section
variable {w0 W W' : World} {c2 c9 p : Nat} {g : Int} {R B Q S : Nat → Prop} {acc : List File} {vF : Value} {rs rs' : RS}
theorem RX.step (h : RX w0 c2 c9 p g R B Q acc vF rs W) (hx : Ext S W W') (hs : ∀ k, S k → k < W.heap.size → ¬ (k = c2 ∨ k = c9 ∨ k = p) ∧ ¬ R k ∧ ¬ B k ∧ ¬ Q k ∧ w0.heap.size ≤ k) : RX w0 c2 c9 p g R B Q acc vF rs W' := by
 have l2 := h.b2.lt
 have lp := h.rb.lt
 have l9 := h.b9.lt
 have z := hx.size
 exact ⟨h.b2.ext hx (fun e => (hs _ e l2).1 (.inl rfl)), h.rb.ext hx (fun e => (hs _ e lp).1 (.inr (.inr rfl))) (fun k hk hl e => (hs k e hl).2.1 hk), h.b9.ext hx (fun e => (hs _ e l9).1 (.inr (.inl rfl))),
  OwnO.ext h.own hx (fun k hk hl e => (hs k e hl).2.2.1 hk) (fun k hk hl e => (hs k e hl).2.2.2.1 hk), h.ext.then hx (fun k e hl => (hs k e hl).2.2.2.2), fun k hk => by have := h.sR k hk; exact ⟨this.1, by omega, this.2.2⟩, fun k hk => by have := h.sB k hk; exact ⟨this.1, by omega, this.2.2⟩, fun k hk => by have := h.sQ k hk; exact ⟨this.1, by omega, this.2.2⟩⟩
theorem RX.step0 (h : RX w0 c2 c9 p g R B Q acc vF rs W) (hx : Ext (fun _ => False) W W') : RX w0 c2 c9 p g R B Q acc vF rs W' := h.step hx (fun _ h _ => h.elim)
theorem RX.read (h : RX w0 c2 c9 p g R B Q acc vF rs W) (hp : w0.heap.size ≤ p) (h2 : p ≠ c2) (h9 : p ≠ c9) (hx : Ext (fun k => k = p) W W') {R' : Nat → Prop} (hr : RB W' p R' rs')
  (hR : ∀ k, R' k → ¬ (k = c2 ∨ k = c9 ∨ k = p) ∧ k < W'.heap.size ∧ ¬ B k ∧ ¬ Q k) : RX w0 c2 c9 p g R' B Q acc vF rs' W' := by
 have z := hx.size
 exact ⟨h.b2.ext hx (fun e => h2 e.symm), hr, h.b9.ext hx (fun e => h9 e.symm),
  OwnO.ext h.own hx (fun k hk hl e => (h.sB k hk).1 (.inr (.inr e))) (fun k hk hl e => (h.sQ k hk).1 (.inr (.inr e))), h.ext.then hx (fun k e hl => by have e : k = p := e; omega), hR, fun k hk => by have := h.sB k hk; exact ⟨this.1, by omega, this.2.2⟩, fun k hk => by have := h.sQ k hk; exact ⟨this.1, by omega, this.2.2⟩⟩
theorem RX.keepR (h : RX w0 c2 c9 p g R B Q acc vF rs W) (hx : Ext S W W') : ∀ k, R k → ¬ (k = c2 ∨ k = c9 ∨ k = p) ∧ k < W'.heap.size ∧ ¬ B k ∧ ¬ Q k := fun k hk => by
 have := h.sR k hk
 have z := hx.size
 exact ⟨this.1, by omega, this.2.2⟩
end
theorem St.begin5 (b : Bs) : St (parseS 4095 b) (b, false) (fun s => (numS 32 s).bind fun n => (filesS 4095 n.1 [] n.2).map (·.1)) := by unfold St; rw [if_neg (by exact Bool.false_ne_true)]; rfl
theorem St.any {β : Type} {R : Option β} {s : RS} {f g : Bs → Option β} (h : St R s f) (hb : s.2 = true) : St R s g := by unfold St at h ⊢; rw [h, if_pos hb, if_pos hb]
theorem readD_none5 {b : Bs} (h : b.length = 1024) (hp : parseS 4095 (innerD b) = none) : readD b = (⟨0, []⟩, 8) := by rw [← readG_eq]; exact freadG_none h hp
theorem readD_gen5 {b : Bs} (h : b.length = 1024) (hg : 4611686018427387904 ≤ (getTo b 8 : Int)) : readD b = (⟨0, []⟩, 8) := by
 have hm : min (getTo b 8 : Int) 4611686018427387904 = 4611686018427387904 := by omega
 cases hp : parseS 4096 (innerD b) with
 | none => exact freadG_none h hp
 | some fs =>
  refine freadG_no h hp (fun hw => ?_)
  have := (checkD_ok (writeF_ok hw).1).2.1.2
  simp only at this
  omega
theorem readD_no5 {b : Bs} {fs : List File} {g : Int} (hg : (getTo b 8 : Int) = g) (hg2 : g < 4611686018427387904) (h : b.length = 1024) (hp : parseS 4095 (innerD b) = some fs) (hw : ¬ writeF ⟨g, fs⟩ = (b, 0)) : readD b = (⟨0, []⟩, 8) := by
 have hm : min (getTo b 8 : Int) 4611686018427387904 = g := by omega
 rw [← readG_eq]
 exact freadG_no h hp (by rw [hm]; exact hw)
theorem readD_ok5 {b : Bs} {fs : List File} {g : Int} (hg : (getTo b 8 : Int) = g) (hg2 : g < 4611686018427387904) (h : b.length = 1024) (hp : parseS 4095 (innerD b) = some fs) (h1 : (writeF ⟨g, fs⟩).1 = b) (h2 : (writeF ⟨g, fs⟩).2 = 0) : readD b = (⟨g, fs⟩, 0) := by
 have hm : min (getTo b 8 : Int) 4611686018427387904 = g := by omega
 rw [← readG_eq, freadG_ok h hp (by rw [hm]; exact Prod.ext h1 h2), hm]
theorem nil_dir {P : Nat → Prop} {w : World} : tDir.rep P w (.agg #[i64 0, .slice none 0 0]) ⟨0, []⟩ := tDir.mk (x := ⟨0, []⟩) Sl.nil ⟨by show (-9223372036854775808 : Int) ≤ 0; decide, by show (0 : Int) ≤ _; decide⟩
end files
theorem RefGet8_fn {w : World} {v : Value} {b : Bs} {n : Nat} (hn : n = getTo b 8) (h : tBytes.rep All w v (b.take 8)) (hl : 8 ≤ b.length) : Fn Tryz.prog 61 [v] w (fun r w2 => r = .tuple #[.int .u64 (n : Nat), i64 0] ∧ Ext (fun _ => False) w w2) :=
 (RefGet_fn h).mono (fun r w2 ⟨hr, hx⟩ => ⟨by rw [hn, hr, if_pos (by rw [List.length_take]; omega), if_pos (by rw [List.length_take]; omega), getTo_take b 8 8 (by omega)], .same hx⟩)
attribute [local irreducible] writeF readD freadG parseS filesS piecesS numS cutS innerD checkD
theorem refNum_fn {w : World} {p : Nat} {P : Nat → Prop} {s : RS} {m : Nat} {bd : Int} (h : RB w p P s) (hp : ¬ P p) (hm : m < 9223372036854775807) (hbd : bd = (m : Int) + 1) : Fn Tryz.prog 62 [.pointer (some ⟨p, 0, none⟩), .int .u64 bd] w (fun r w2 => r = i64 ((page.numP m s).1 : Nat) ∧ RB w2 p P (page.numP m s).2 ∧ Ext (fun k => k = p) w w2) := by
 obtain ⟨v0, B0, R0⟩ := h
 obtain ⟨a, cap, rfl, hcap⟩ := Sl.val R0
 obtain ⟨hr1, hr2⟩ := readF_bd s.1
 have np : ∀ k, P k → k < w.heap.size → ¬ k = p := fun k hk _ he => hp (he ▸ hk)
 refine Fn.enter (fun w => Tryz.call62 _ w) Tryz.func62 rfl ?_
 refine .seq (.region ?_)
 refine .p rfl rfl (.as rfl) (.nil (.code (.seq (.keep [(0, _), (1, _)] ⟨rfl, rfl, trivial⟩ (.region ?_)))))
 refine .p rfl rfl (.mv rfl) (.p rfl rfl (.nilCheck rfl) (.p rfl rfl (.fieldAddr rfl rfl rfl rfl) (.p rfl rfl (.load rfl rfl rfl (B0.cell 0)) (.call (first := []) (captured := []) rfl rfl rfl rfl (RefRead_fn (allOf R0)) ?_))))
 rintro _ w13 ⟨rfl, X13⟩
 have z13 := X13.size
 have B1 := B0.ext X13 (fun x => x)
 have R1 := tBytes.ext0 R0 X13
 refine .p rfl rfl (.mv rfl) (.p rfl rfl (.extract rfl rfl) (.p rfl rfl (.extract rfl rfl) (.p rfl rfl (.extract rfl rfl) (.p rfl rfl (.as rfl) (.p rfl rfl (.as rfl) (.p rfl rfl (.as rfl) (.nil (.code (.seq (.seq (.keep [(7, _), (6, _), (5, _), (0, _), (1, _)] ⟨rfl, rfl, rfl, rfl, rfl, trivial⟩ (.region ?_))))))))))))
 refine .p rfl rfl (.mv rfl) (.p rfl rfl (.ne rfl rfl) (.p rfl rfl (.mv rfl) ?_))
 refine .caseD 19 rfl (fun c19 => ?_) (fun c19 => ?_)
 ·refine .skip rfl rfl (.skip rfl rfl (.skip rfl rfl (.p rfl rfl (.pickT rfl rfl) (.nil (.code (.keep [(23, _), (6, _), (5, _), (0, _)] ⟨rfl, rfl, rfl, rfl, trivial⟩ (.condT rfl (.seq (.keep [(0, _)] ⟨rfl, trivial⟩ (.region ?_))))))))))
  refine .p rfl rfl (.mv rfl) (.p rfl rfl (.nilCheck rfl) (.p rfl rfl (.fieldAddr rfl rfl rfl rfl) (.s rfl (.store rfl rfl rfl rfl rfl B1 (by simp)) ?_)))
  intro w3 P3
  have B3 : Blk w3 p 120 [.slice a s.1.length cap, .bool true] := P3.blk
  refine .nil (.code (.seq (.keep [] trivial (.region ?_))))
  refine .p rfl rfl (.as rfl) (.nil (.code ?_))
  refine .ret _ rfl ?_
  have e : page.numP m s = (0, (s.1, true)) := by unfold page.numP; rw [if_pos (by first | exact .inl (by assumption) | exact .inr (by omega))]
  rw [e]
  exact ⟨rfl, ⟨_, B3, tBytes.ext R1 P3.ext (fun k hk _ he => hp (by have he : k = p := he; rw [← he]; exact hk))⟩, (X13.mono (fun _ _ h => h.elim)).trans P3.ext⟩
 ·refine .p rfl rfl (.mv rfl) (.p rfl rfl (.mv rfl) (.p rfl rfl (.ge rfl rfl) (.p rfl rfl (.pickF rfl rfl) (.nil (.code (.keep [(23, _), (6, _), (5, _), (0, _)] ⟨rfl, rfl, rfl, rfl, trivial⟩ ?_))))))
  refine .condD rfl (fun c23 => ?_) (fun c23 => ?_)
  ·refine .seq (.keep [(0, _)] ⟨rfl, trivial⟩ (.region ?_))
   refine .p rfl rfl (.mv rfl) (.p rfl rfl (.nilCheck rfl) (.p rfl rfl (.fieldAddr rfl rfl rfl rfl) (.s rfl (.store rfl rfl rfl rfl rfl B1 (by simp)) ?_)))
   intro w3 P3
   have B3 : Blk w3 p 120 [.slice a s.1.length cap, .bool true] := P3.blk
   refine .nil (.code (.seq (.keep [] trivial (.region ?_))))
   refine .p rfl rfl (.as rfl) (.nil (.code ?_))
   refine .ret _ rfl ?_
   have e : page.numP m s = (0, (s.1, true)) := by unfold page.numP; rw [if_pos (by first | exact .inl (by assumption) | exact .inr (by omega))]
   rw [e]
   exact ⟨rfl, ⟨_, B3, tBytes.ext R1 P3.ext (fun k hk _ he => hp (by have he : k = p := he; rw [← he]; exact hk))⟩, (X13.mono (fun _ _ h => h.elim)).trans P3.ext⟩
  ·obtain ⟨a34, c34, hv34, hc34, R34⟩ := Sl.cutE R1 (readF s.1).2.1 s.1.length (by omega) (by omega)
   rw [List.take_length] at R34
   refine .skip (.code (.seq (.keep [(6, _), (5, _), (0, _)] ⟨rfl, rfl, rfl, trivial⟩ (.region ?_))))
   refine .p rfl rfl (.mv rfl) (.p rfl rfl (.mv rfl) (.p rfl rfl (.nilCheck rfl) (.p rfl rfl (.fieldAddr rfl rfl rfl rfl) (.p rfl rfl (.load rfl rfl rfl (B1.cell 0)) (.p rfl rfl (.mv rfl) (.p rfl rfl (.cast (.cutLo (s := 1) rfl rfl rfl rfl (by omega)) (show cutV 1 a cap ((readF s.1).2.1 : Int).toNat s.1.length = .slice a34 (s.1.length - (readF s.1).2.1) c34 by rw [Int.toNat_natCast]; exact hv34)) (.p rfl rfl (.nilCheck rfl) (.p rfl rfl (.fieldAddr rfl rfl rfl rfl) (.s rfl (.store rfl rfl rfl rfl rfl B1 (by simp)) ?_)))))))))
   intro w5 P5
   have B5 : Blk w5 p 120 [.slice a34 (s.1.length - (readF s.1).2.1) c34, .bool s.2] := P5.blk
   refine .nil (.code (.seq (.keep [(5, _)] ⟨rfl, trivial⟩ (.region ?_))))
   refine .p rfl rfl (.mv rfl) (.p rfl rfl (.convI rfl rfl rfl (by omega)) (.p rfl rfl (.as rfl) (.nil (.code ?_))))
   refine .ret _ rfl ?_
   have e : page.numP m s = ((readF s.1).1, (s.1.drop (readF s.1).2.1, s.2)) := by unfold page.numP; rw [if_neg (fun h => h.elim c19 (by omega))]
   rw [e]
   exact ⟨rfl, ⟨_, B5, tBytes.ext R34 P5.ext (fun k hk _ he => hp (by have he : k = p := he; rw [← he]; exact hk))⟩, (X13.mono (fun _ _ h => h.elim)).trans P5.ext⟩
set_option maxHeartbeats 4000000 in
theorem RefReadD_fn {w : World} {v : Value} {b : Bs} (h : tBytes.rep All w v b) : Fn Tryz.prog 15 [v] w (fun r w2 => ∃ u, r = .tuple #[u, i64 (readD b).2] ∧ tDir.rep (fun k => w.heap.size ≤ k) w2 u (readD b).1 ∧ Ext (fun _ => False) w w2) := by
 obtain ⟨a, cap, rfl, hcap⟩ := Sl.val h
 refine Fn.enter (fun w => Tryz.call15 _ w) Tryz.func15 rfl ?_
 refine .seq (.region ?_)
 refine .v rfl rfl (.alloc rfl rfl) ?_
 rintro _ w2 ⟨rfl, N2⟩
 have z2 : w2.heap.size = w.heap.size + 1 := N2.size
 have X2 := N2.ext
 refine .p rfl rfl (.as rfl) (.nil (.code (.seq (.seq (.keep [(2, _), (0, _)] ⟨rfl, rfl, trivial⟩ (.region ?_))))))
 refine .p rfl rfl (.mv rfl) (.p rfl rfl (.len rfl rfl) (.p rfl rfl (.ne rfl rfl) (.nil (.code (.keep [(24, _), (2, _), (0, _)] ⟨rfl, rfl, rfl, trivial⟩ ?_)))))
 refine .condD rfl (fun c24 => ?_) (fun c24 => ?_)
 ·refine .seq (.keep [(2, _)] ⟨rfl, trivial⟩ (.region ?_))
  refine .p rfl rfl (.build (cs := [i64 0, .slice none 0 0]) rfl (fun _ => by kernel_rfl)) (.s rfl (.storeAll (n := 2) rfl rfl rfl rfl rfl N2.blk rfl) ?_)
  intro w3 P3
  refine .p rfl rfl (.as rfl) (.nil (.code ?_))
  refine .retR (.cell (n := 2) rfl rfl rfl rfl rfl (P3.blk.cells) (.tmp rfl .nil)) ?_
  rw [readD_len (by omega)]
  exact ⟨_, rfl, nil_dir, N2.ext.then P3.ext (by rintro k rfl _; exact Nat.le_refl _)⟩
 ·have hlen : b.length = 1024 := by omega
  refine .skip (.code (.seq (.keep [(2, _), (0, _)] ⟨rfl, rfl, trivial⟩ (.region ?_))))
  refine .p rfl rfl (.as rfl) (.nil (.code (.seq (.seq (.region ?_)))))
  refine .p rfl rfl (.as rfl) (.nil (.code (.block ?_)))
  refine .loop (S := Nat × Bs × Value × World) (fun s => [(0, .slice a b.length cap), (2, .pointer (some ⟨w.heap.size, 0, none⟩)), (4, s.2.2.1), (5, i64 s.1)]) (fun s => s.2.2.2) (fun s => s.1 ≤ 8 ∧ s.2.1 = (List.range s.1).flatMap (fun i => ((b.drop (i * 128)).take 128).drop 9) ∧ OwnO tByte (fun _ => False) 5 s.2.2.2 s.2.2.1 s.2.1 (fun k => w2.heap.size ≤ k) ∧ Ext (fun _ => False) w2 s.2.2.2) (fun s => 8 - s.1) (0, [], .slice none 0 0, w2) ⟨rfl, rfl, rfl, rfl, trivial⟩ rfl ⟨Nat.zero_le _, rfl, OwnO.nil, .refl _⟩ ?_
  rintro ⟨i, acc, vi, wa⟩ J ⟨hi', ha, hO, hX⟩ again
  simp only at hi' ha hO hX
  have za := hX.size
  have hal := innerTo_length b i
  rw [← ha] at hal
  change G _ [(0, .slice a b.length cap), (2, .pointer (some ⟨w.heap.size, 0, none⟩)), (4, vi), (5, i64 i)] _ _ wa
  refine .seq (.seq (.region ?_))
  refine .p rfl rfl (.mv rfl) (.p rfl rfl (.lt rfl rfl) (.nil (.code (.keep [(27, _), (0, _), (2, _), (4, _), (5, _)] ⟨rfl, rfl, rfl, rfl, rfl, trivial⟩ ?_))))
  refine .condD rfl (fun c27 => ?_) (fun c27 => ?_)
  ·have hi : i < 8 := by omega
   obtain ⟨a36, c36, hv36, hc36, R36⟩ := Sl.cutE h (i * 128) (i * 128 + 128) (by omega) (by omega)
   obtain ⟨a39, c39, hv39, hc39, R39⟩ := Sl.cutE R36 9 (i * 128 + 128 - i * 128) (by omega) (by omega)
   rw [List.take_of_length_le (by simp only [List.length_drop, List.length_take]; omega)] at R39
   have R39 := tBytes.ext0 R39 (X2.trans hX)
   refine .skip (.code (.seq (.block (.seq (.keep [(0, _), (2, _), (4, _), (5, _)] ⟨rfl, rfl, rfl, rfl, trivial⟩ (.region ?_))))))
   refine .p rfl rfl (.mv rfl) (.p rfl rfl (.mv rfl) (.p rfl rfl (.mul rfl rfl (by omega)) (.p rfl rfl (.mv rfl) (.p rfl rfl (.mul rfl rfl (by omega)) (.p rfl rfl (.add rfl rfl (by omega)) (.p rfl rfl (.cast (.cut (s := 1) rfl rfl rfl rfl rfl (by omega)) (show cutV 1 a cap ((i : Int) * 128).toNat ((i : Int) * 128 + 128).toNat = .slice a36 (i * 128 + 128 - i * 128) c36 by rw [show ((i : Int) * 128).toNat = i * 128 by omega, show ((i : Int) * 128 + 128).toNat = i * 128 + 128 by omega]; exact hv36)) (.p rfl rfl (.as rfl) (.nil (.code (.keep [(6, _), (0, _), (2, _), (4, _), (5, _)] ⟨rfl, rfl, rfl, rfl, rfl, trivial⟩ (.region ?_)))))))))))
   refine .p rfl rfl (.mv rfl) (.p rfl rfl (.mv rfl) (.p rfl rfl (.cast (.cutLo (s := 1) rfl rfl rfl rfl (by omega)) (show cutV 1 a36 c36 (9 : Int).toNat (i * 128 + 128 - i * 128) = _ from hv39)) (.v rfl rfl (.appendLo (t := tByte) (eb := 1) rfl hO (fun k hk => by show w2.heap.size ≤ k; omega) rfl (Gr.holds (P := All) (allOf R39)) rfl rfl rfl rfl rfl rfl rfl (by simp only [List.length_drop, List.length_take]; omega) (by simp only [List.length_drop, List.length_take, Lim]; omega) (fun _ h _ => h.elim)) ?_)))
   rintro v40 w40 ⟨O40, A40⟩
   have z40 := A40.size
   refine .p rfl rfl (.as rfl) (.nil (.blk (.code (.keep [(4, _), (0, _), (2, _), (5, _)] ⟨rfl, rfl, rfl, rfl, trivial⟩ (.region ?_)))))
   refine .p rfl rfl (.mv rfl) (.p rfl rfl (.add rfl rfl (by omega)) (.p rfl rfl (.as rfl) (.nil ?_)))
   exact (again (i + 1, _, v40, w40) ⟨by show i + 1 ≤ 8; omega, by show acc ++ _ = _; rw [JC.step hlen hi, ha], O40, hX.then A40 (fun k h _ => h)⟩ (by show 8 - (i + 1) < 8 - i; omega)).of ⟨rfl, rfl, rfl, rfl, trivial⟩
  ·obtain rfl : i = 8 := by omega
   have ha : acc = innerD b := by rw [ha]; unfold innerD; rfl
   subst ha
   obtain ⟨av, kv, rfl, _⟩ := OwnO.val hO
   have B2 := N2.blk.ext hX (fun x => x)
   have R4 : tBytes.rep (fun k => w2.heap.size ≤ k ∧ k < wa.heap.size) wa (.slice av (innerD b).length kv) (innerD b) := OwnO.rep hO (fun k h hl => ⟨h, hl⟩) (fun _ h _ => h.elim)
   obtain ⟨a43, c43, hv43, hc43, R43⟩ := Sl.cutE h 0 8 (by omega) (by omega)
   rw [List.drop_zero] at R43
   obtain ⟨n8, hn8⟩ : ∃ n, n = getTo b 8 := ⟨_, rfl⟩
   refine .exit rfl (.code (.seq (.keep [(0, _), (2, _), (4, _)] ⟨rfl, rfl, rfl, trivial⟩ (.region ?_))))
   refine .p rfl rfl (.mv rfl) (.p rfl rfl (.cast (.cutHi (s := 1) rfl rfl rfl rfl (by omega)) (show cutV 1 a cap 0 (8 : Int).toNat = .slice a43 (8 - 0) c43 from hv43)) (.call (first := []) (captured := []) rfl rfl rfl rfl (RefGet8_fn (b := b) hn8 (tBytes.ext0 R43 (by repeat (first | exact Ext.refl _ | assumption | refine Ext.trans (by assumption) ?_))) (by omega)) ?_))
   rintro _ w44 ⟨rfl, X44⟩
   have z44 := X44.size
   have hgb := getTo_bd b (i := 8) (by omega)
   rw [← hn8] at hgb
   refine .p rfl rfl (.mv rfl) (.p rfl rfl (.extract rfl rfl) (.p rfl rfl (.extract rfl rfl) (.p rfl rfl (.as rfl) (.p rfl rfl (.as rfl) (.nil (.code (.seq (.seq (.keep [(7, _), (0, _), (2, _), (4, _)] ⟨rfl, rfl, rfl, rfl, trivial⟩ (.region ?_))))))))))
   refine .p rfl rfl (.mv rfl) (.p rfl rfl (.ge rfl rfl) (.nil (.code (.keep [(48, _), (7, _), (0, _), (2, _), (4, _)] ⟨rfl, rfl, rfl, rfl, rfl, trivial⟩ ?_))))
   refine .condD rfl (fun c48 => ?_) (fun c48 => ?_)
   ·refine .seq (.keep [(2, _)] ⟨rfl, trivial⟩ (.region ?_))
    refine .p rfl rfl (.build (cs := [i64 0, .slice none 0 0]) rfl (fun _ => by kernel_rfl)) (.s rfl (.storeAll (n := 2) rfl rfl rfl rfl rfl (B2.ext (S := fun _ => False) (by repeat (first | exact Ext.refl _ | assumption | refine Ext.trans (by assumption) ?_)) (fun x => x)) rfl) ?_)
    intro w11 P11
    refine .p rfl rfl (.as rfl) (.nil (.code ?_))
    refine .retR (.cell (n := 2) rfl rfl rfl rfl rfl (P11.blk.cells) (.tmp rfl .nil)) ?_
    rw [readD_gen5 hlen (by rw [← hn8]; omega)]
    exact ⟨_, rfl, nil_dir, Ext.then (S := fun k => k = w.heap.size) (by repeat (first | exact Ext.refl _ | assumption | refine Ext.trans (by assumption) ?_)) P11.ext (by rintro k rfl _; omega)⟩
   ·have hg62 : (n8 : Int) < 4611686018427387904 := by omega
    have hg8 : (getTo b 8 : Int) = (n8 : Int) := by rw [hn8]
    refine .skip (.code (.seq (.keep [(7, _), (0, _), (2, _), (4, _)] ⟨rfl, rfl, rfl, rfl, trivial⟩ (.region ?_))))
    refine .p rfl rfl (.mv rfl) (.p rfl rfl (.convI rfl rfl rfl (by omega)) (.p rfl rfl (.build (cs := [i64 (n8 : Int), .slice none 0 0]) rfl (fun _ => by kernel_rfl)) (.v rfl rfl (.alloc rfl rfl) ?_)))
    rintro _ wn9 ⟨rfl, N9⟩
    refine .s rfl (.storeAll (n := 2) rfl rfl rfl rfl rfl N9.blk rfl) ?_
    intro w9 P9
    have Y9 := N9.ext.then P9.ext (by rintro k rfl _; exact Nat.le_refl _)
    have zy9 := Y9.size
    have B9 := P9.blk
    clear P9 N9
    refine .nil (.code (.seq (.keep [(9, _), (0, _), (2, _), (4, _)] ⟨rfl, rfl, rfl, rfl, trivial⟩ (.region ?_))))
    refine .p rfl rfl (.mv rfl) (.p rfl rfl (.build (cs := [.slice av (innerD b).length kv, .bool false]) rfl (fun _ => by kernel_rfl)) (.v rfl rfl (.box rfl) ?_))
    rintro _ w55 ⟨rfl, N55⟩
    have z55 : w55.heap.size = w9.heap.size + 1 := N55.size
    have X55 := N55.ext
    have lb9 := B9.lt
    have D0 : RX w w.heap.size w44.heap.size w9.heap.size (n8 : Int) (fun k => w2.heap.size ≤ k ∧ k < wa.heap.size) (fun _ => False) (fun _ => False) [] (.slice none 0 0) (innerD b, false) w55 := ⟨(B2.ext (S := fun _ => False) (by repeat (first | exact Ext.refl _ | assumption | refine Ext.trans (by assumption) ?_)) (fun x => x)), ⟨_, N55.blk, tBytes.ext0 R4 (by repeat (first | exact Ext.refl _ | assumption | refine Ext.trans (by assumption) ?_))⟩, B9.ext X55 (fun x => x), OwnO.nil, (by repeat (first | exact Ext.refl _ | assumption | refine Ext.trans (by assumption) ?_)), fun k hk => by have hk : w2.heap.size ≤ k ∧ k < wa.heap.size := hk; exact ⟨by omega, by omega, fun h => h, fun h => h⟩, fun _ h => h.elim, fun _ h => h.elim⟩
    have rd : ∀ {R B Q R' : Nat → Prop} {acc : List File} {vF : Value} {rs rs' : RS} {W W' : World}, RX w w.heap.size w44.heap.size w9.heap.size (n8 : Int) R B Q acc vF rs W → Ext (fun k => k = w9.heap.size) W W' → RB W' w9.heap.size R' rs' → (∀ k, R' k → ¬ (k = w.heap.size ∨ k = w44.heap.size ∨ k = w9.heap.size) ∧ k < W'.heap.size ∧ ¬ B k ∧ ¬ Q k) → RX w w.heap.size w44.heap.size w9.heap.size (n8 : Int) R' B Q acc vF rs' W' := fun h hx hr hR => h.read (by omega) (by omega) (by omega) hx hr hR
    have st0 := St.begin5 (innerD b)
    have hil := innerD_length b
    refine .p rfl rfl (.as rfl) (.nil (.code (.seq (.keep [(10, _), (9, _), (0, _), (2, _)] ⟨rfl, rfl, rfl, rfl, trivial⟩ (.region ?_)))))
    refine .p rfl rfl (.mv rfl) (.call (first := []) (captured := []) rfl rfl rfl rfl (refNum_fn (m := 32) D0.rb (fun h => (D0.sR _ h).1 (.inr (.inr rfl))) (by decide) (by decide)) ?_)
    rintro _ w57 ⟨rfl, R57, X57⟩
    have z57 := X57.size
    have D1 := rd D0 X57 R57 (D0.keepR X57)
    have st1 := St.num st0
    obtain ⟨hb57, hl57⟩ := page.numP_le 32 (innerD b, false)
    generalize page.numP 32 (innerD b, false) = q57 at *
    obtain ⟨n, t57⟩ := q57
    simp only at hb57 hl57 st1 D1 R57
    refine .p rfl rfl (.as rfl) (.nil (.code (.seq (.seq (.keep [(11, _), (10, _), (9, _), (0, _), (2, _)] ⟨rfl, rfl, rfl, rfl, rfl, trivial⟩ (.region ?_))))))
    refine .p rfl rfl (.as rfl) (.nil (.code (.block ?_)))
    refine .loop (S := Nat × List File × RS × Value × (Nat → Prop) × (Nat → Prop) × (Nat → Prop) × World) (fun s => [(0, .slice a b.length cap), (2, .pointer (some ⟨w.heap.size, 0, none⟩)), (9, .pointer (some ⟨w44.heap.size, 0, none⟩)), (10, .pointer (some ⟨w9.heap.size, 0, none⟩)), (11, i64 (n : Nat)), (12, i64 s.1)]) (fun s => s.2.2.2.2.2.2.2) (fun s => s.1 ≤ n ∧ RX w w.heap.size w44.heap.size w9.heap.size (n8 : Int) s.2.2.2.2.1 s.2.2.2.2.2.1 s.2.2.2.2.2.2.1 s.2.1 s.2.2.2.1 s.2.2.1 s.2.2.2.2.2.2.2 ∧ St (parseS 4095 (innerD b)) s.2.2.1 (fun q => (filesS 4095 (n - s.1) s.2.1 q).map (·.1)) ∧ s.2.2.1.1.length ≤ 1024 ∧ s.2.1.length = s.1 ∧ (allP s.2.1).length ≤ 4096 * s.1 ∧ w57.heap.size ≤ s.2.2.2.2.2.2.2.heap.size) (fun s => n - s.1) (0, [], _, _, _, _, _, w57) ⟨rfl, rfl, rfl, rfl, rfl, rfl, trivial⟩ rfl ⟨Nat.zero_le _, D1, st1, by show t57.1.length ≤ 1024; omega, rfl, Nat.zero_le _, Nat.le_refl _⟩ ?_
    rintro ⟨i, acc, rs, vF, R, B, Q, wi⟩ J ⟨hi', hRD, hst, hlr, hacc, hall, zwi⟩ again
    simp only at hi' hRD hst hlr hacc hall zwi
    obtain ⟨vr, Br, Rr⟩ := hRD.rb
    change G _ [(0, .slice a b.length cap), (2, .pointer (some ⟨w.heap.size, 0, none⟩)), (9, .pointer (some ⟨w44.heap.size, 0, none⟩)), (10, .pointer (some ⟨w9.heap.size, 0, none⟩)), (11, i64 (n : Nat)), (12, i64 i)] _ _ wi
    refine .seq (.seq ?_)
    refine .meet (S := Bool) (fun s => [(0, .slice a b.length cap), (2, .pointer (some ⟨w.heap.size, 0, none⟩)), (9, .pointer (some ⟨w44.heap.size, 0, none⟩)), (10, .pointer (some ⟨w9.heap.size, 0, none⟩)), (11, i64 (n : Nat)), (12, i64 (i : Nat)), (67, .bool s)]) (fun s => wi) (fun s => (s = true → i < n ∧ rs.2 = false) ∧ (s = false → i = n ∨ rs.2 = true)) ?_ ?_
    ·rintro t67 ⟨ht67, hf67⟩
     refine .code ?_
     refine .cond rfl (fun c67 => ?_) (fun c67 => ?_)
     ·obtain ⟨hi, hrs⟩ := ht67 c67
      obtain ⟨ar, kr, rfl, hkr⟩ := Sl.val Rr
      have l2 := hRD.b2.lt
      have l9 := hRD.b9.lt
      have lp := hRD.rb.lt
      have st2 : St (parseS 4095 (innerD b)) rs (fun s => (cutS s).bind fun t => (numS 524288 t.2).bind fun z => (numS 4096 z.2).bind fun k => (piecesS 4095 k.1 [] k.2).bind fun p => (filesS 4095 (n - (i + 1)) (acc ++ [⟨t.1, (z.1 : Int), p.1⟩]) p.2).map (·.1)) := hst.to (by rw [show n - i = (n - (i + 1)) + 1 by omega, filesS_map])
      refine .skip (.code (.seq (.block (.seq (.keep [(0, _), (2, _), (9, _), (10, _), (11, _), (12, _)] ⟨rfl, rfl, rfl, rfl, rfl, rfl, trivial⟩ (.region ?_))))))
      refine .p rfl rfl (.mv rfl) (.p rfl rfl (.nilCheck rfl) (.p rfl rfl (.fieldAddr rfl rfl rfl rfl) (.p rfl rfl (.load rfl rfl rfl (Br.cell 0)) (.call (first := []) (captured := []) rfl rfl rfl rfl (RefCut_fn (allOf Rr)) ?_))))
      rintro _ w75 ⟨v75, rfl, G75, X75⟩
      have z75 := X75.size
      have D2 := hRD.step0 X75
      obtain ⟨v2r, B2r, R2r⟩ := D2.rb
      obtain ⟨a75, k75, rfl, hk75⟩ := OwnO.val G75
      have hcl := page.cutF_le rs.1
      refine .p rfl rfl (.mv rfl) (.p rfl rfl (.extract rfl rfl) (.p rfl rfl (.extract rfl rfl) (.p rfl rfl (.extract rfl rfl) (.p rfl rfl (.as rfl) (.p rfl rfl (.as rfl) (.p rfl rfl (.as rfl) (.nil (.code (.seq (.seq (.keep [(15, _), (14, _), (13, _), (0, _), (2, _), (9, _), (10, _), (11, _), (12, _)] ⟨rfl, rfl, rfl, rfl, rfl, rfl, rfl, rfl, rfl, trivial⟩ (.region ?_))))))))))))
      refine .p rfl rfl (.mv rfl) (.p rfl rfl (.ne rfl rfl) (.nil (.code (.keep [(80, _), (14, _), (13, _), (0, _), (2, _), (9, _), (10, _), (11, _), (12, _)] ⟨rfl, rfl, rfl, rfl, rfl, rfl, rfl, rfl, rfl, trivial⟩ ?_))))
      refine .condD rfl (fun c80 => ?_) (fun c80 => ?_)
      ·refine .seq (.keep [(2, _)] ⟨rfl, trivial⟩ (.region ?_))
       refine .p rfl rfl (.build (cs := [i64 0, .slice none 0 0]) rfl (fun _ => by kernel_rfl)) (.s rfl (.storeAll (n := 2) rfl rfl rfl rfl rfl D2.b2 rfl) ?_)
       intro w20 P20
       refine .p rfl rfl (.as rfl) (.nil (.code ?_))
       refine .retR (.cell (n := 2) rfl rfl rfl rfl rfl (P20.blk.cells) (.tmp rfl .nil)) ?_
       rw [readD_none5 hlen (St.cutN st2 c80)]
       exact ⟨_, rfl, nil_dir, D2.ext.then P20.ext (by rintro k rfl _; omega)⟩
      ·have hcc : (cutF rs.1).2.2 = 0 := Decidable.not_not.1 c80
       refine .skip (.code (.seq (.keep [(14, _), (13, _), (0, _), (2, _), (9, _), (10, _), (11, _), (12, _)] ⟨rfl, rfl, rfl, rfl, rfl, rfl, rfl, rfl, trivial⟩ (.region ?_))))
       refine .p rfl rfl (.mv rfl) (.p rfl rfl (.mv rfl) (.p rfl rfl (.nilCheck rfl) (.p rfl rfl (.fieldAddr rfl rfl rfl rfl) (.s rfl (.store rfl rfl rfl rfl rfl B2r (by simp)) ?_))))
       intro w21 P21
       have z21 : w21.heap.size = w75.heap.size := P21.size
       have R21 : RB w21 w9.heap.size (fun k => wi.heap.size ≤ k ∧ k < w75.heap.size) ((cutF rs.1).2.1, rs.2) := ⟨_, P21.blk, tBytes.ext (Gr.rep' G75) P21.ext (fun k hk _ e => by have hk : wi.heap.size ≤ k ∧ _ := hk; have e : k = w9.heap.size := e; omega)⟩
       have D3 := rd D2 P21.ext R21 (fun k hk => by have hk : wi.heap.size ≤ k ∧ k < w75.heap.size := hk; exact ⟨by omega, by omega, fun hb => by have := (hRD.sB k hb).2.1; omega, fun hb => by have := (hRD.sQ k hb).2.1; omega⟩)
       have st3 := St.cut st2 hcc
       refine .nil (.code (.seq (.keep [(13, _), (0, _), (2, _), (9, _), (10, _), (11, _), (12, _)] ⟨rfl, rfl, rfl, rfl, rfl, rfl, rfl, trivial⟩ (.region ?_))))
       refine .p rfl rfl (.mv rfl) (.p rfl rfl (.mv rfl) (.call (first := []) (captured := []) rfl rfl rfl rfl (refNum_fn (m := 524288) D3.rb (fun h => (D3.sR _ h).1 (.inr (.inr rfl))) (by decide) (by decide)) ?_))
       rintro _ w88 ⟨rfl, R88, X88⟩
       have z88 := X88.size
       have D4 := rd D3 X88 R88 (D3.keepR X88)
       have st4 := St.num st3
       obtain ⟨hb88, hl88⟩ := page.numP_le 524288 ((cutF rs.1).2.1, rs.2)
       generalize page.numP 524288 ((cutF rs.1).2.1, rs.2) = q88 at *
       obtain ⟨zz, t88⟩ := q88
       simp only at hb88 hl88 st4 D4 R88
       refine .p rfl rfl (.build (cs := [str (cutF rs.1).1, i64 (zz : Nat), .slice none 0 0]) rfl (fun _ => by kernel_rfl)) (.v rfl rfl (.alloc rfl rfl) ?_)
       rintro _ w16a ⟨rfl, N16⟩
       refine .s rfl (.storeAll (n := 3) rfl rfl rfl rfl rfl N16.blk rfl) ?_
       intro w16 P16
       have X16 : Ext (fun _ => False) w88 w16 := N16.ext.then P16.ext (by rintro k rfl _; exact Nat.le_refl _)
       have z16 : w16.heap.size = w88.heap.size + 1 := by rw [P16.size, N16.size]
       have B16 := P16.blk
       have D5 := D4.step0 X16
       refine .nil (.code (.seq (.keep [(16, _), (0, _), (2, _), (9, _), (10, _), (11, _), (12, _)] ⟨rfl, rfl, rfl, rfl, rfl, rfl, rfl, trivial⟩ (.region ?_))))
       refine .p rfl rfl (.mv rfl) (.call (first := []) (captured := []) rfl rfl rfl rfl (refNum_fn (m := 4096) D5.rb (fun h => (D5.sR _ h).1 (.inr (.inr rfl))) (by decide) (by decide)) ?_)
       rintro _ w91 ⟨rfl, R91, X91⟩
       have z91 := X91.size
       have D6 := rd D5 X91 R91 (D5.keepR X91)
       have st6 := St.num st4
       obtain ⟨hb91, hl91⟩ := page.numP_le 4096 t88
       generalize page.numP 4096 t88 = q91 at *
       obtain ⟨kk, t91⟩ := q91
       simp only at hb91 hl91 st6 D6 R91
       have B16 := B16.ext X91 (by omega)
       refine .p rfl rfl (.as rfl) (.nil (.code (.seq (.seq (.keep [(17, _), (16, _), (0, _), (2, _), (9, _), (10, _), (11, _), (12, _)] ⟨rfl, rfl, rfl, rfl, rfl, rfl, rfl, rfl, trivial⟩ (.region ?_))))))
       refine .p rfl rfl (.as rfl) (.nil (.code (.block ?_)))
       refine .loop (S := Nat × List Piece × RS × Value × (Nat → Prop) × World) (fun s => [(0, .slice a b.length cap), (2, .pointer (some ⟨w.heap.size, 0, none⟩)), (9, .pointer (some ⟨w44.heap.size, 0, none⟩)), (10, .pointer (some ⟨w9.heap.size, 0, none⟩)), (11, i64 (n : Nat)), (12, i64 (i : Nat)), (16, .pointer (some ⟨w88.heap.size, 0, none⟩)), (17, i64 (kk : Nat)), (18, i64 s.1)]) (fun s => s.2.2.2.2.2) (fun s => s.1 ≤ kk ∧ RX w w.heap.size w44.heap.size w9.heap.size (n8 : Int) (fun k => wi.heap.size ≤ k ∧ k < w75.heap.size) B Q acc vF s.2.2.1 s.2.2.2.2.2 ∧ Blk s.2.2.2.2.2 w88.heap.size 28 [str (cutF rs.1).1, i64 (zz : Nat), s.2.2.2.1] ∧ OwnO tPiece (fun _ => False) 40 s.2.2.2.2.2 s.2.2.2.1 s.2.1 s.2.2.2.2.1 ∧ (∀ k, s.2.2.2.2.1 k → w88.heap.size < k ∧ k < s.2.2.2.2.2.heap.size) ∧ St (parseS 4095 (innerD b)) s.2.2.1 (fun q => (piecesS 4095 (kk - s.1) s.2.1 q).bind fun p => (filesS 4095 (n - (i + 1)) (acc ++ [⟨(cutF rs.1).1, (zz : Int), p.1⟩]) p.2).map (·.1)) ∧ s.2.1.length = s.1 ∧ s.2.2.1.1.length ≤ 1024 ∧ w91.heap.size ≤ s.2.2.2.2.2.heap.size) (fun s => kk - s.1) (0, [], _, .slice none 0 0, fun _ => False, w91) ⟨rfl, rfl, rfl, rfl, rfl, rfl, rfl, rfl, rfl, trivial⟩ rfl ⟨Nat.zero_le _, D6, B16, OwnO.nil, fun _ h => h.elim, st6, rfl, by show t91.1.length ≤ 1024; omega, Nat.le_refl _⟩ ?_
       rintro ⟨j, accp, rj, vP, Bp, wj⟩ J2 ⟨hj', hRDj, B16j, hOP, hBp, stj, haccp, hlj, zwj⟩ againj
       simp only at hj' hRDj B16j hOP hBp stj haccp hlj zwj
       obtain ⟨vj, Bj, Rj⟩ := hRDj.rb
       obtain ⟨aP, kP, rfl, hkP⟩ := OwnO.val hOP
       change G _ [(0, .slice a b.length cap), (2, .pointer (some ⟨w.heap.size, 0, none⟩)), (9, .pointer (some ⟨w44.heap.size, 0, none⟩)), (10, .pointer (some ⟨w9.heap.size, 0, none⟩)), (11, i64 (n : Nat)), (12, i64 (i : Nat)), (16, .pointer (some ⟨w88.heap.size, 0, none⟩)), (17, i64 (kk : Nat)), (18, i64 j)] _ _ wj
       refine .seq (.seq ?_)
       refine .meet (S := Bool) (fun s => [(0, .slice a b.length cap), (2, .pointer (some ⟨w.heap.size, 0, none⟩)), (9, .pointer (some ⟨w44.heap.size, 0, none⟩)), (10, .pointer (some ⟨w9.heap.size, 0, none⟩)), (11, i64 (n : Nat)), (12, i64 (i : Nat)), (16, .pointer (some ⟨w88.heap.size, 0, none⟩)), (17, i64 (kk : Nat)), (18, i64 (j : Nat)), (101, .bool s)]) (fun s => wj) (fun s => (s = true → j < kk ∧ rj.2 = false) ∧ (s = false → j = kk ∨ rj.2 = true)) ?_ ?_
       ·rintro t101 ⟨ht101, hf101⟩
        refine .code ?_
        refine .cond rfl (fun c101 => ?_) (fun c101 => ?_)
        ·obtain ⟨hj, hrj⟩ := ht101 c101
         have stj1 := stj.to (g := fun s => (numS 4095 s).bind fun f => (numS 4096 f.2).bind fun c => (piecesS 4095 (kk - (j + 1)) (accp ++ [⟨(f.1 : Int), (c.1 : Int)⟩]) c.2).bind fun p => (filesS 4095 (n - (i + 1)) (acc ++ [⟨(cutF rs.1).1, (zz : Int), p.1⟩]) p.2).map (·.1)) (by rw [show kk - j = (kk - (j + 1)) + 1 by omega, piecesS_bind])
         refine .skip (.code (.seq (.block (.seq (.keep [(0, _), (2, _), (9, _), (10, _), (11, _), (12, _), (16, _), (17, _), (18, _)] ⟨rfl, rfl, rfl, rfl, rfl, rfl, rfl, rfl, rfl, trivial⟩ (.region ?_))))))
         refine .p rfl rfl (.mv rfl) (.call (first := []) (captured := []) rfl rfl rfl rfl (refNum_fn (m := 4095) hRDj.rb (fun h => (hRDj.sR _ h).1 (.inr (.inr rfl))) (by decide) (by decide)) ?_)
         rintro _ w105 ⟨rfl, R105, X105⟩
         have z105 := X105.size
         have Dj1 := rd hRDj X105 R105 (hRDj.keepR X105)
         have stj2 := St.num stj1
         obtain ⟨hb105, hl105⟩ := page.numP_le 4095 rj
         generalize page.numP 4095 rj = q105 at *
         obtain ⟨fr, t105⟩ := q105
         simp only at hb105 hl105 stj2 Dj1 R105
         refine .p rfl rfl (.build (cs := [i64 (fr : Nat), i64 0]) rfl (fun _ => by kernel_rfl)) (.v rfl rfl (.alloc rfl rfl) ?_)
         rintro _ w19a ⟨rfl, N19⟩
         refine .s rfl (.storeAll (n := 2) rfl rfl rfl rfl rfl N19.blk rfl) ?_
         intro w19 P19
         have X19 : Ext (fun _ => False) w105 w19 := N19.ext.then P19.ext (by rintro k rfl _; exact Nat.le_refl _)
         have z19 : w19.heap.size = w105.heap.size + 1 := by rw [P19.size, N19.size]
         have B19 := P19.blk
         have Dj2 := Dj1.step0 X19
         refine .nil (.code (.seq (.keep [(19, _), (0, _), (2, _), (9, _), (10, _), (11, _), (12, _), (16, _), (17, _), (18, _)] ⟨rfl, rfl, rfl, rfl, rfl, rfl, rfl, rfl, rfl, rfl, trivial⟩ (.region ?_))))
         refine .p rfl rfl (.mv rfl) (.call (first := []) (captured := []) rfl rfl rfl rfl (refNum_fn (m := 4096) Dj2.rb (fun h => (Dj2.sR _ h).1 (.inr (.inr rfl))) (by decide) (by decide)) ?_)
         rintro _ w108 ⟨rfl, R108, X108⟩
         have z108 := X108.size
         have Dj3 := rd Dj2 X108 R108 (Dj2.keepR X108)
         have stj3 := St.num stj2
         obtain ⟨hb108, hl108⟩ := page.numP_le 4096 t105
         generalize page.numP 4096 t105 = q108 at *
         obtain ⟨ct, t108⟩ := q108
         simp only at hb108 hl108 stj3 Dj3 R108
         refine .p rfl rfl (.fieldAddr rfl rfl rfl rfl) (.s rfl (.store rfl rfl rfl rfl rfl (B19.ext X108 (by omega)) (by simp)) ?_)
         intro w28 P28
         have z28 : w28.heap.size = w108.heap.size := P28.size
         have B28 : Blk w28 w105.heap.size 40 [i64 (fr : Nat), i64 (ct : Nat)] := P28.blk
         have Dj4 := Dj3.step P28.ext (fun k e _ => by have e : k = w105.heap.size := e; exact ⟨by omega, fun hk => by have hk : wi.heap.size ≤ k ∧ k < w75.heap.size := hk; omega, fun hk => by have := (hRD.sB k hk).2.1; omega, fun hk => by have := (hRD.sQ k hk).2.1; omega, by omega⟩)
         have B16k := (((B16j.ext X105 (by omega)).ext X19 (fun x => x)).ext X108 (by omega)).ext P28.ext (by omega)
         have OPk := OwnO.ext (OwnO.ext (OwnO.ext0 (OwnO.ext hOP X105 (fun k hk _ e => by have := hBp k hk; omega) (fun _ h _ => h.elim)) X19) X108 (fun k hk _ e => by have := hBp k hk; omega) (fun _ h _ => h.elim)) P28.ext (fun k hk _ e => by have := hBp k hk; have e : k = w105.heap.size := e; omega) (fun _ h _ => h.elim)
         refine .nil (.code (.keep [(19, _), (0, _), (2, _), (9, _), (10, _), (11, _), (12, _), (16, _), (17, _), (18, _)] ⟨rfl, rfl, rfl, rfl, rfl, rfl, rfl, rfl, rfl, rfl, trivial⟩ (.region ?_)))
         refine .p rfl rfl (.fieldAddr rfl rfl rfl rfl) (.p rfl rfl (.load rfl rfl rfl (B16k.cell 2)) (.p rfl rfl (.loadA (n := 2) rfl rfl rfl rfl rfl B28.cells) (.v rfl rfl (.lits rfl rfl (fun _ => by kernel_rfl)) ?_)))
         rintro _ w113 ⟨rfl, N113⟩
         have z113 : w113.heap.size = w28.heap.size + 1 := N113.size
         refine .v rfl rfl (.appendLo (t := tPiece) (Q := fun _ => False) (xs := accp) (ys := [⟨(fr : Nat), (ct : Nat)⟩]) (B := fun k => Bp k ∨ w113.heap.size ≤ k) (eb := 16) rfl (OwnO.mono (OwnO.ext0 OPk N113.ext) (fun _ h _ => h) (fun k h _ => .inl h)) (fun k hk => .inr hk) rfl (.inr (New.holds (t := tPiece) (us := [_]) (xs := [⟨(fr : Nat), (ct : Nat)⟩]) N113 (.cons (tPiece.mk (p := ⟨(fr : Nat), (ct : Nat)⟩) ⟨by show _ ≤ ((fr : Nat) : Int); omega, by show ((fr : Nat) : Int) ≤ _; omega⟩ ⟨by show _ ≤ ((ct : Nat) : Int); omega, by show ((ct : Nat) : Int) ≤ _; omega⟩) .nil) rfl)) rfl rfl rfl rfl rfl rfl rfl (by simp; omega) (by simp [Lim]; omega) (fun _ h _ => h.elim)) ?_
         rintro r114 w114 ⟨O114, X114⟩
         have z114 := X114.size
         obtain ⟨a114, k114, rfl, hk114⟩ := OwnO.val O114
         refine .p rfl rfl (.fieldAddr rfl rfl rfl rfl) (.s rfl (.store rfl rfl rfl rfl rfl ((B16k.ext N113.ext (fun x => x)).ext X114 (fun h => by rcases h with h | h; (have := hBp _ h; omega); omega)) (by simp)) ?_)
         intro w29 P29
         have z29 : w29.heap.size = w114.heap.size := P29.size
         refine .nil (.blk (.code (.keep [(0, _), (2, _), (9, _), (10, _), (11, _), (12, _), (16, _), (17, _), (18, _)] ⟨rfl, rfl, rfl, rfl, rfl, rfl, rfl, rfl, rfl, trivial⟩ (.region ?_))))
         refine .p rfl rfl (.mv rfl) (.p rfl rfl (.add rfl rfl (by omega)) (.p rfl rfl (.as rfl) (.nil ?_)))
         refine (againj (j + 1, accp ++ [⟨(fr : Nat), (ct : Nat)⟩], t108, _, (fun k => (Bp k ∨ w113.heap.size ≤ k) ∧ k < w114.heap.size), w29) ⟨by show j + 1 ≤ kk; omega, ?_, P29.blk, OwnO.mono (OwnO.ext O114 P29.ext (fun k hk _ e => by have e : k = w88.heap.size := e; rcases hk with hk | hk; (have := hBp k hk; omega); omega) (fun _ h _ => h.elim)) (fun _ h _ => h) (fun k h hl => ⟨h, by have hl : k < w29.heap.size := hl; omega⟩), fun k hk => by show w88.heap.size < k ∧ k < w29.heap.size; rcases hk.1 with h | h; (have := hBp k h; exact ⟨by omega, by omega⟩); exact ⟨by omega, by omega⟩, stj3, by simp [haccp], by show t108.1.length ≤ 1024; omega, by show w91.heap.size ≤ w29.heap.size; omega⟩ (by show kk - (j + 1) < kk - j; omega)).of ⟨rfl, rfl, rfl, rfl, rfl, rfl, rfl, rfl, rfl, trivial⟩
         have far : ∀ k, w88.heap.size ≤ k → ¬ (k = w.heap.size ∨ k = w44.heap.size ∨ k = w9.heap.size) ∧ ¬ (wi.heap.size ≤ k ∧ k < w75.heap.size) ∧ ¬ B k ∧ ¬ Q k ∧ w.heap.size ≤ k := fun k hk => ⟨by omega, by omega, fun h => by have := (hRD.sB k h).2.1; omega, fun h => by have := (hRD.sQ k h).2.1; omega, by omega⟩
         exact ((Dj4.step0 N113.ext).step X114 (fun k h _ => far k (by rcases h with h | h; (have := hBp k h; omega); omega))).step P29.ext (fun k e _ => far k (by have e : k = w88.heap.size := e; omega))
        ·have stjx : St (parseS 4095 (innerD b)) rj (fun s => (filesS 4095 (n - (i + 1)) (acc ++ [⟨(cutF rs.1).1, (zz : Int), accp⟩]) s).map (·.1)) := by
          rcases hf101 c101 with hx | hx
          ·subst hx; rw [Nat.sub_self] at stj; exact stj.to (by rw [piecesS_0]; rfl)
          ·exact stj.any hx
         refine .exit rfl (.code (.keep [(0, _), (2, _), (9, _), (10, _), (11, _), (12, _), (16, _)] ⟨rfl, rfl, rfl, rfl, rfl, rfl, rfl, trivial⟩ (.region ?_)))
         refine .p rfl rfl (.fieldAddr rfl rfl rfl rfl) (.p rfl rfl (.load rfl rfl rfl (hRDj.b9.cell 1)) (.p rfl rfl (.loadA (n := 3) rfl rfl rfl rfl rfl B16j.cells) (.v rfl rfl (.lits rfl rfl (fun _ => by kernel_rfl)) ?_)))
         rintro _ w119 ⟨rfl, N119⟩
         have z119 : w119.heap.size = wj.heap.size + 1 := N119.size
         refine .v rfl rfl (.appendLo (t := tFileO) (Q := fun k => Q k ∨ Bp k) (xs := acc) (ys := [⟨(cutF rs.1).1, (zz : Nat), accp⟩]) (B := fun k => B k ∨ w119.heap.size ≤ k) (eb := 48) rfl (OwnO.mono (OwnO.ext0 hRDj.own N119.ext) (fun k h _ => .inl h) (fun k h _ => .inl h)) (fun k hk => .inr hk) rfl (.inr (New.holds (t := tFileO) (us := [_]) (xs := [⟨(cutF rs.1).1, (zz : Nat), accp⟩]) N119 (.cons (tFileO.mk (x := ⟨(cutF rs.1).1, (zz : Nat), accp⟩) (OwnO.mono hOP (fun _ h _ => h) (fun k h _ => .inr h)) (by show List.length _ < Lim; simp only [Lim]; omega) ⟨by show _ ≤ ((zz : Nat) : Int); omega, by show ((zz : Nat) : Int) ≤ _; omega⟩) .nil) rfl)) rfl rfl rfl rfl rfl rfl rfl (by simp; omega) (by simp [Lim]; omega) (fun k hk hl hb => by rcases hk with hk | hk; (have := hRDj.sQ k hk; rcases hb with hb | hb; (exact (hRDj.sB k hb).2.2.1 hk); omega); (have := hBp k hk; rcases hb with hb | hb; (have := (hRD.sB k hb).2.1; omega); omega))) ?_
         rintro r120 w120 ⟨O120, X120⟩
         have z120 := X120.size
         obtain ⟨a120, k120, rfl, hk120⟩ := OwnO.val O120
         have b9x := (hRDj.b9.ext N119.ext (fun x => x)).ext X120 (fun h => by rcases h with h | h; (exact (hRDj.sB _ h).1 (.inr (.inl rfl))); omega)
         refine .p rfl rfl (.fieldAddr rfl rfl rfl rfl) (.s rfl (.store rfl rfl rfl rfl rfl b9x (by simp)) ?_)
         intro w30 P30
         have z30 : w30.heap.size = w120.heap.size := P30.size
         refine .nil (.blk (.code (.keep [(0, _), (2, _), (9, _), (10, _), (11, _), (12, _)] ⟨rfl, rfl, rfl, rfl, rfl, rfl, trivial⟩ (.region ?_))))
         refine .p rfl rfl (.mv rfl) (.p rfl rfl (.add rfl rfl (by omega)) (.p rfl rfl (.as rfl) (.nil ?_)))
         refine (again (i + 1, acc ++ [⟨(cutF rs.1).1, (zz : Nat), accp⟩], rj, .slice a120 (acc ++ [(⟨(cutF rs.1).1, (zz : Nat), accp⟩ : File)]).length k120, (fun k => wi.heap.size ≤ k ∧ k < w75.heap.size), (fun k => (B k ∨ w119.heap.size ≤ k) ∧ k < w120.heap.size), (fun k => Q k ∨ Bp k), w30) ⟨by show i + 1 ≤ n; omega, ?_, stjx, hlj, by simp [hacc], ?_, by show w57.heap.size ≤ w30.heap.size; omega⟩ (by show n - (i + 1) < n - i; omega)).of ⟨rfl, rfl, rfl, rfl, rfl, rfl, trivial⟩
         ·have hBX : ∀ k, k = w.heap.size ∨ k = w44.heap.size ∨ k = w9.heap.size → ¬ (B k ∨ w119.heap.size ≤ k) := fun k hk h => by rcases h with h | h; exact (hRDj.sB k h).1 hk; omega
          show RX w w.heap.size w44.heap.size w9.heap.size (n8 : Int) (fun k => wi.heap.size ≤ k ∧ k < w75.heap.size) (fun k => (B k ∨ w119.heap.size ≤ k) ∧ k < w120.heap.size) (fun k => Q k ∨ Bp k) (acc ++ [(⟨(cutF rs.1).1, (zz : Nat), accp⟩ : File)]) (.slice a120 (acc ++ [(⟨(cutF rs.1).1, (zz : Nat), accp⟩ : File)]).length k120) rj w30
          exact ⟨((hRDj.b2.ext N119.ext (fun x => x)).ext X120 (hBX _ (.inl rfl))).ext P30.ext (by omega), RB.ext (RB.ext (hRDj.rb.ext N119.ext (fun x => x) (fun _ _ _ x => x)) X120 (hBX _ (.inr (.inr rfl))) (fun k hk _ h => by have := hRDj.sR k hk; rcases h with h | h; exact this.2.2.1 h; omega)) P30.ext (by omega) (fun k hk _ e => (hRDj.sR k hk).1 (.inr (.inl e))), P30.blk,
           OwnO.mono (OwnO.ext O120 P30.ext (fun k hk _ e => hBX k (.inr (.inl e)) hk) (fun k hk _ e => by have e : k = w44.heap.size := e; rcases hk with hk | hk; exact (hRDj.sQ k hk).1 (.inr (.inl e)); (have := hBp k hk; omega))) (fun _ h _ => h) (fun k h hl => ⟨h, by omega⟩),
           ((hRDj.ext.trans N119.ext).then X120 (fun k h _ => by rcases h with h | h; exact (hRDj.sB k h).2.2.2; omega)).then P30.ext (by rintro k rfl _; omega),
           fun k hk => ⟨(hRDj.sR k hk).1, by have hk : wi.heap.size ≤ k ∧ k < w75.heap.size := hk; omega, fun h => by have := hRDj.sR k hk; rcases h.1 with h | h; exact this.2.2.1 h; omega, fun h => by have := hRDj.sR k hk; rcases h with h | h; exact this.2.2.2 h; (have := hBp k h; have hk : wi.heap.size ≤ k ∧ k < w75.heap.size := hk; omega)⟩,
           fun k hk => ⟨fun h => hBX k h hk.1, by omega, fun h => by rcases h with h | h; (have := hRDj.sQ k h; rcases hk.1 with hb | hb; exact (hRDj.sB k hb).2.2.1 h; omega); (have := hBp k h; rcases hk.1 with hb | hb; (have := (hRD.sB k hb).2.1; omega); omega), by rcases hk.1 with hb | hb; exact (hRDj.sB k hb).2.2.2; omega⟩,
           fun k hk => by rcases hk with hk | hk; (have := hRDj.sQ k hk; exact ⟨this.1, by omega, this.2.2⟩); (have := hBp k hk; exact ⟨by omega, by omega, by omega⟩)⟩
         ·show (allP (acc ++ [_])).length ≤ 4096 * (i + 1)
          rw [allP_snoc, List.length_append]
          show (allP acc).length + accp.length ≤ _
          omega
       ·intro meet
        refine .region (.p rfl rfl (.mv rfl) (.p rfl rfl (.mv rfl) (.p rfl rfl (.lt rfl rfl) (.p rfl rfl (.mv rfl) ?_))))
        refine .caseD 95 rfl (fun c95 => ?_) (fun c95 => ?_)
        ·refine .p rfl rfl (.mv rfl) (.p rfl rfl (.nilCheck rfl) (.p rfl rfl (.fieldAddr rfl rfl rfl rfl) (.p rfl rfl (.load rfl rfl rfl (Bj.cell 1)) (.p rfl rfl (.not rfl) (.p rfl rfl (.pickT rfl rfl) (.nil ?_))))))
         exact (meet (!rj.2) ⟨fun h => ⟨by omega, by simpa using h⟩, fun h => .inr (by simpa using h)⟩).of ⟨rfl, rfl, rfl, rfl, rfl, rfl, rfl, rfl, rfl, rfl, trivial⟩
        ·refine .skip rfl rfl (.skip rfl rfl (.skip rfl rfl (.skip rfl rfl (.skip rfl rfl (.p rfl rfl (.pickF rfl rfl) (.nil ?_))))))
         exact (meet false ⟨fun h => (by cases h), fun _ => .inl (by omega)⟩).of ⟨rfl, rfl, rfl, rfl, rfl, rfl, rfl, rfl, rfl, rfl, trivial⟩
     ·have hex := hf67 c67
      obtain ⟨aF, kF, rfl, hkF⟩ := OwnO.val hRD.own
      have l2 := hRD.b2.lt
      have l9 := hRD.b9.lt
      have lp := hRD.rb.lt
      refine .exit rfl (.code (.seq (.seq (.keep [(0, _), (2, _), (9, _), (10, _)] ⟨rfl, rfl, rfl, rfl, trivial⟩ (.region ?_)))))
      refine .p rfl rfl (.mv rfl) (.p rfl rfl (.nilCheck rfl) (.p rfl rfl (.fieldAddr rfl rfl rfl rfl) (.p rfl rfl (.load rfl rfl rfl (Br.cell 1)) (.nil (.code (.keep [(125, _), (0, _), (2, _), (9, _)] ⟨rfl, rfl, rfl, rfl, trivial⟩ ?_))))))
      refine .cond rfl (fun c125 => ?_) (fun c125 => ?_)
      ·refine .seq (.keep [(2, _)] ⟨rfl, trivial⟩ (.region ?_))
       refine .p rfl rfl (.build (cs := [i64 0, .slice none 0 0]) rfl (fun _ => by kernel_rfl)) (.s rfl (.storeAll (n := 2) rfl rfl rfl rfl rfl hRD.b2 rfl) ?_)
       intro w32 P32
       refine .p rfl rfl (.as rfl) (.nil (.code ?_))
       refine .retR (.cell (n := 2) rfl rfl rfl rfl rfl (P32.blk.cells) (.tmp rfl .nil)) ?_
       rw [readD_none5 hlen (St.bad hst c125)]
       exact ⟨_, rfl, nil_dir, hRD.ext.then P32.ext (by rintro k rfl _; omega)⟩
      ·have hin : i = n := hex.resolve_right (by rw [c125]; exact Bool.false_ne_true)
       subst hin
       rw [Nat.sub_self] at hst
       have hst : (parseS 4095 (innerD b)) = some acc := (hst.ok (by rw [c125]; exact Bool.false_ne_true)).trans (by rw [filesS_0]; rfl)
       refine .skip (.code (.seq (.keep [(0, _), (2, _), (9, _)] ⟨rfl, rfl, rfl, trivial⟩ (.region ?_))))
       refine .p rfl rfl (.loadA (n := 2) rfl rfl rfl rfl rfl hRD.b9.cells) (.call (first := []) (captured := []) rfl rfl rfl rfl (RefWriteD_fn (x := ⟨(n8 : Int), acc⟩) (tDir.mk (x := ⟨(n8 : Int), acc⟩) (own_files hRD.own (fun _ _ => trivial) (fun _ _ => trivial)) ⟨by show _ ≤ (n8 : Int); omega, by show (n8 : Int) ≤ _; omega⟩) (by show (allP acc).length ≤ _; omega)) ?_)
       rintro _ w129 ⟨v129, rfl, G129, X129⟩
       have z129 := X129.size
       have D9 := hRD.step0 X129
       obtain ⟨a129, k129, rfl, hk129⟩ := OwnO.val G129
       refine .p rfl rfl (.mv rfl) (.p rfl rfl (.extract rfl rfl) (.p rfl rfl (.extract rfl rfl) (.p rfl rfl (.as rfl) (.p rfl rfl (.as rfl) (.nil (.code (.seq (.seq (.keep [(21, _), (20, _), (0, _), (2, _), (9, _)] ⟨rfl, rfl, rfl, rfl, rfl, trivial⟩ (.region ?_))))))))))
       refine .p rfl rfl (.mv rfl) (.p rfl rfl (.ne rfl rfl) (.p rfl rfl (.mv rfl) ?_))
       refine .caseD 134 rfl (fun c134 => ?_) (fun c134 => ?_)
       ·refine .skip rfl rfl (.skip rfl rfl (.skip rfl rfl (.skip rfl rfl (.skip rfl rfl (.p rfl rfl (.pickT rfl rfl) (.nil (.code (.keep [(140, _), (2, _), (9, _)] ⟨rfl, rfl, rfl, trivial⟩ (.condT rfl (.seq (.keep [(2, _)] ⟨rfl, trivial⟩ (.region ?_))))))))))))
        refine .p rfl rfl (.build (cs := [i64 0, .slice none 0 0]) rfl (fun _ => by kernel_rfl)) (.s rfl (.storeAll (n := 2) rfl rfl rfl rfl rfl D9.b2 rfl) ?_)
        intro w35 P35
        refine .p rfl rfl (.as rfl) (.nil (.code ?_))
        refine .retR (.cell (n := 2) rfl rfl rfl rfl rfl (P35.blk.cells) (.tmp rfl .nil)) ?_
        rw [readD_no5 hg8 hg62 hlen hst (fun h => c134 (congrArg Prod.snd h))]
        exact ⟨_, rfl, nil_dir, D9.ext.then P35.ext (by rintro k rfl _; omega)⟩
       ·refine .p rfl rfl (.mv rfl) (.p rfl rfl (.bytesStr rfl (Gr.rep G129) rfl rfl rfl) (.p rfl rfl (.mv rfl) (.p rfl rfl (.bytesStr rfl (tBytes.ext0 h D9.ext) rfl rfl rfl) (.p rfl rfl (.neS rfl rfl) (.p rfl rfl (.pickF rfl rfl) (.nil (.code (.keep [(140, _), (2, _), (9, _)] ⟨rfl, rfl, rfl, trivial⟩ ?_))))))))
        refine .condD rfl (fun c140 => ?_) (fun c140 => ?_)
        ·refine .seq (.keep [(2, _)] ⟨rfl, trivial⟩ (.region ?_))
         refine .p rfl rfl (.build (cs := [i64 0, .slice none 0 0]) rfl (fun _ => by kernel_rfl)) (.s rfl (.storeAll (n := 2) rfl rfl rfl rfl rfl D9.b2 rfl) ?_)
         intro w35 P35
         refine .p rfl rfl (.as rfl) (.nil (.code ?_))
         refine .retR (.cell (n := 2) rfl rfl rfl rfl rfl (P35.blk.cells) (.tmp rfl .nil)) ?_
         rw [readD_no5 hg8 hg62 hlen hst (fun h => c140 (congrArg Prod.fst h))]
         exact ⟨_, rfl, nil_dir, D9.ext.then P35.ext (by rintro k rfl _; omega)⟩
        ·refine .skip (.code (.seq (.keep [(2, _), (9, _)] ⟨rfl, rfl, trivial⟩ (.region ?_))))
         refine .p rfl rfl (.loadA (n := 2) rfl rfl rfl rfl rfl D9.b9.cells) (.s rfl (.storeAll (n := 2) rfl rfl rfl rfl rfl D9.b2 rfl) ?_)
         intro w36 P36
         refine .p rfl rfl (.as rfl) (.nil (.code ?_))
         refine .retR (.cell (n := 2) rfl rfl rfl rfl rfl (P36.blk.cells) (.tmp rfl .nil)) ?_
         rw [readD_ok5 hg8 hg62 hlen hst (Decidable.not_not.1 c140) (Decidable.not_not.1 c134)]
         exact ⟨_, rfl, tDir.own (x := ⟨(n8 : Int), acc⟩) (OwnO.ext D9.own P36.ext (fun k hk _ e => (D9.sB k hk).1 (.inl e)) (fun k hk _ e => (D9.sQ k hk).1 (.inl e))) (fun k hk => (D9.sB k hk).2.2.2) (fun k hk => (D9.sQ k hk).2.2) ⟨by show _ ≤ (n8 : Int); omega, by show (n8 : Int) ≤ _; omega⟩, D9.ext.then P36.ext (by rintro k rfl _; omega)⟩
    ·intro meet
     refine .region (.p rfl rfl (.mv rfl) (.p rfl rfl (.mv rfl) (.p rfl rfl (.lt rfl rfl) (.p rfl rfl (.mv rfl) ?_))))
     refine .caseD 61 rfl (fun c61 => ?_) (fun c61 => ?_)
     ·refine .p rfl rfl (.mv rfl) (.p rfl rfl (.nilCheck rfl) (.p rfl rfl (.fieldAddr rfl rfl rfl rfl) (.p rfl rfl (.load rfl rfl rfl (Br.cell 1)) (.p rfl rfl (.not rfl) (.p rfl rfl (.pickT rfl rfl) (.nil ?_))))))
      exact (meet (!rs.2) ⟨fun h => ⟨by omega, by simpa using h⟩, fun h => .inr (by simpa using h)⟩).of ⟨rfl, rfl, rfl, rfl, rfl, rfl, rfl, trivial⟩
     ·refine .skip rfl rfl (.skip rfl rfl (.skip rfl rfl (.skip rfl rfl (.skip rfl rfl (.p rfl rfl (.pickF rfl rfl) (.nil ?_))))))
      exact (meet false ⟨fun h => (by cases h), fun _ => .inl (by omega)⟩).of ⟨rfl, rfl, rfl, rfl, rfl, rfl, rfl, trivial⟩
end Go.Proofs.YtpfehnopghffjaaGreatDoor
