/-
  A page tells its entries again.
-/
import Derived.Test.YtgolflhoajafhaaPFind
set_option linter.unusedVariables false
set_option linter.unusedSimpArgs false
set_option maxRecDepth 20000
namespace Go.Proofs.Ytgolflhoajafhaa
open Go page
theorem sumTo_cons (c : UInt8) (b : Bs) : ∀ i, sumTo (c :: b) (i + 1) = c.toNat % 128 + 128 * sumTo b i
  | 0 => by simp [sumTo]
  | i + 1 => by
    rw [sumTo, sumTo_cons c b i, sumTo, List.getD_cons_succ, Nat.pow_succ, Nat.mul_add]
    have : (b.getD i 0).toNat % 128 * (128 ^ i * 128) = 128 * ((b.getD i 0).toNat % 128 * 128 ^ i) := by
      rw [Nat.mul_comm (128 ^ i) 128, Nat.mul_left_comm]
    omega
theorem lead_big {c : UInt8} {b : Bs} (h : 128 ≤ c.toNat) : leadN (c :: b) = leadN b + 1 := by
  unfold leadN
  rw [List.takeWhile_cons, if_pos (by simpa using h)]
  rfl
theorem lead_low {c : UInt8} {b : Bs} (h : c.toNat < 128) : leadN (c :: b) = 0 := by
  unfold leadN
  rw [List.takeWhile_cons, if_neg (by simpa using h)]
  rfl
theorem small_back : ∀ (f n : Nat) (r : Bs), n < 128 ^ (f + 1) → ∃ k, (smallK (f + 1) n).length = k + 1 ∧ leadN (smallK (f + 1) n ++ r) = k ∧ sumTo (smallK (f + 1) n ++ r) (k + 1) = n ∧ (1 ≤ n → ((smallK (f + 1) n ++ r).getD k 0).toNat ≠ 0) ∧ (k ≠ 0 → 1 ≤ n) ∧ ((smallK (f + 1) n ++ r).getD k 0).toNat * 128 ^ k ≤ n := by
  have low : ∀ (f n : Nat) (r : Bs), n ≤ 127 → ∃ k, (smallK (f + 1) n).length = k + 1 ∧ leadN (smallK (f + 1) n ++ r) = k ∧ sumTo (smallK (f + 1) n ++ r) (k + 1) = n ∧ (1 ≤ n → ((smallK (f + 1) n ++ r).getD k 0).toNat ≠ 0) ∧ (k ≠ 0 → 1 ≤ n) ∧ ((smallK (f + 1) n ++ r).getD k 0).toNat * 128 ^ k ≤ n := by
    intro f n r h
    have e : smallK (f + 1) n = [UInt8.ofNat n] := by rw [smallK, if_pos h]
    have e1 : (UInt8.ofNat n).toNat = n := by
      rw [UInt8.toNat_ofNat']
      omega
    refine ⟨0, by rw [e]; rfl, ?_, ?_, ?_, fun h => absurd rfl h, ?_⟩
    · rw [e]; exact lead_low (by omega)
    · rw [e, List.singleton_append, sumTo_cons, e1, sumTo]; omega
    · rw [e]; show 1 ≤ n → (UInt8.ofNat n).toNat ≠ 0; omega
    · rw [e]; show (UInt8.ofNat n).toNat * 1 ≤ n; omega
  intro f
  induction f with
  | zero => intro n r h; exact low 0 n r (by omega)
  | succ f ih =>
    intro n r h
    by_cases hn : n ≤ 127
    · exact low (f + 1) n r hn
    · have e : smallK (f + 1 + 1) n = UInt8.ofNat (n % 128 + 128) :: smallK (f + 1) (n / 128) := by rw [smallK, if_neg hn]
      have e1 : (UInt8.ofNat (n % 128 + 128)).toNat = n % 128 + 128 := by
        rw [UInt8.toNat_ofNat']
        omega
      obtain ⟨k, h1, h2, h3, h4, h5, h6⟩ := ih (n / 128) r (by rw [Nat.pow_succ] at h; omega)
      refine ⟨k + 1, by rw [e, List.length_cons, h1], ?_, ?_, ?_, fun _ => by omega, ?_⟩
      · rw [e, List.cons_append, lead_big (by omega), h2]
      · rw [e, List.cons_append, sumTo_cons, h3, e1]
        omega
      · rw [e, List.cons_append, List.getD_cons_succ]
        intro _
        exact h4 (by omega)
      · rw [e, List.cons_append, List.getD_cons_succ, Nat.pow_succ, ← Nat.mul_assoc]
        have := Nat.mul_le_mul_right 128 h6
        omega
theorem read_small {n : Nat} (r : Bs) (h : n < 18446744073709551616) : readF (smallF n ++ r) = (n, (smallF n).length, 0) := by
  have h10 : (128 : Nat) ^ (9 + 1) = 1180591620717411303424 := by decide
  obtain ⟨k, h1, h2, h3, h4, h5, h6⟩ := small_back 9 n r (by omega)
  have hl := smallF_length n
  have e : smallF n = smallK (9 + 1) n := rfl
  rw [← e] at h1 h2 h3 h4 h6
  have ok : readOk (smallF n ++ r) := by
    unfold readOk
    rw [h2]
    refine ⟨by rw [List.length_append]; omega, by omega, fun hx => ?_, fun hx => h4 (h5 (by omega)) hx.2⟩
    obtain ⟨rfl, h8⟩ := hx
    have h7 : (128 : Nat) ^ 9 = 9223372036854775808 := by decide
    rw [h7] at h6
    omega
  unfold readF
  rw [if_pos ok, h2, h3, h1]
theorem cut_text {s : Bs} (r : Bs) (h : s.length < 18446744073709551616) : cutF (textF s ++ r) = (s, r, 0) := by
  have e : readF (textF s ++ r) = (s.length, (smallF s.length).length, 0) := by unfold textF; rw [List.append_assoc]; exact read_small _ h
  have e2 : (textF s ++ r).drop (smallF s.length).length = s ++ r := by unfold textF; rw [List.append_assoc, List.drop_left]
  unfold cutF
  rw [e, if_neg]
  · simp only
    rw [e2, List.take_left, List.drop_left]
  · simp only [List.length_append, textF]
    rintro (h1 | h1)
    · exact h1 trivial
    · omega
namespace page
theorem numP_small {n m : Nat} (r : Bs) (x : Bool) (h : n < 18446744073709551616) (hm : n ≤ m) : numP m (smallF n ++ r, x) = (n, (r, x)) := by
  unfold numP
  simp only [read_small r h]
  rw [if_neg (fun hx => hx.elim (fun h => h trivial) (by omega)), List.drop_left]
theorem textP_text {s : Bs} (r : Bs) (x : Bool) (h : s.length < 18446744073709551616) : textP (textF s ++ r, x) = (s, (r, x)) := by
  unfold textP
  simp only [cut_text r h]
  simp
theorem flagP_cons (c : UInt8) (r : Bs) (x : Bool) : flagP (c :: r, x) = (c, (r, x)) := rfl
theorem preN_take : ∀ a b : Bs, a.take (preN a b) = b.take (preN a b)
  | [], b => by simp [preN]
  | a :: x, [] => by simp [preN]
  | a :: x, b :: y => by
    rw [preN]
    split
    · rename_i h
      rw [List.take_succ_cons, List.take_succ_cons, preN_take x y, h]
    · rfl
theorem headR_ent {ahead : Bs} {x : Entry} (r : Bs) (h : oneE x = 0) : headR ahead (entB ahead x ++ r, false) = (x.key, x.seq.toNat, x.gone, ((if x.gone = true then [] else textF x.value) ++ r, false)) := by
  obtain ⟨k1, k2, k3, k4, k5, k6⟩ := one_ok h
  have hp := preN_le ahead x.key
  have e : entB ahead x ++ r = smallF (preN ahead x.key) ++ (textF (x.key.drop (preN ahead x.key)) ++ (smallF x.seq.toNat ++ (goneB x ++ r))) := by
    unfold entB
    simp only [List.append_assoc]
  rw [headR_eq, e, numP_small _ _ (by omega) hp.1]
  simp only
  rw [textP_text _ _ (by simp; omega)]
  simp only
  rw [numP_small _ _ (by omega) (by omega)]
  simp only
  rw [preN_take, List.take_append_drop]
  cases hg : x.gone with
  | true =>
    have : goneB x = [1] := by unfold goneB; rw [if_pos hg]
    rw [this]
    rfl
  | false =>
    have : goneB x = 0 :: textF x.value := by unfold goneB; rw [if_neg (by rw [hg]; exact Bool.false_ne_true)]
    rw [this, List.cons_append, flagP_cons]
    rfl
theorem entR_ent {ahead : Bs} {x : Entry} (r : Bs) (h : oneE x = 0) : entR ahead (entB ahead x ++ r, false) = (x, (r, false)) := by
  obtain ⟨k1, k2, k3, k4, k5, k6⟩ := one_ok h
  obtain ⟨key, value, seq, gone⟩ := x
  have e := headR_ent (ahead := ahead) r h
  simp only at k1 k2 k3 k4 k5 k6 e
  have es : ((seq.toNat : Nat) : Int) = seq := by omega
  cases gone with
  | true =>
    rw [entR_T (by rw [e]), e]
    simp only [if_true, List.nil_append, es, k6 rfl]
  | false =>
    rw [entR_F (by rw [e]; exact Bool.false_ne_true), e]
    simp only [Bool.false_eq_true, if_false, es]
    rw [textP_text _ _ (by omega)]
def tailB : Bs → List Entry → Bs
  | _, [] => []
  | a, x :: l => entB a x ++ tailB x.key l
theorem fold_tail : ∀ (l : List Entry) (b a : Bs), (l.foldl stepB (b, a)).1 = b ++ tailB a l
  | [], b, a => (List.append_nil b).symm
  | x :: l, b, a => by
    rw [List.foldl_cons, stepB, fold_tail l]
    simp only [tailB, List.append_assoc]
theorem body_eq (l : List Entry) : bodyB l = smallF l.length ++ tailB [] l := fold_tail l _ _
theorem loop_back : ∀ (l acc : List Entry) (ahead : Bs), (∀ x ∈ l, oneE x = 0) → loopR l.length ahead acc (tailB ahead l, false) = some (acc ++ l)
  | [], acc, ahead, _ => by rw [List.length_nil, loopR_0, if_neg Bool.false_ne_true, List.append_nil]
  | x :: l, acc, ahead, h => by
    have e := entR_ent (ahead := ahead) (tailB x.key l) (h x List.mem_cons_self)
    rw [List.length_cons, tailB, loopR_F (by rw [e]), e]
    simp only
    rw [loop_back l _ _ (fun y hy => h y (List.mem_cons_of_mem _ hy)), List.append_assoc]
    rfl
theorem smallF_pos (n : Nat) : 1 ≤ (smallF n).length := by
  show 1 ≤ (smallK (9 + 1) n).length
  rw [smallK]
  split
  · exact Nat.le_refl _
  · rw [List.length_cons]; omega
theorem make_ok2 {l : List Entry} (h : (makeE l).2 = 0) : checkE l = 0 ∧ (pageB l).length ≤ 65536 := by
  unfold makeE at h
  split at h
  · rename_i h1; exact absurd h h1
  · rename_i h1
    split at h
    · cases h
    · exact ⟨Decidable.not_not.1 h1, by omega⟩
theorem read_page {l : List Entry} (h : (makeE l).2 = 0) : readE (pageB l) = (l, 0) := by
  obtain ⟨hc, hlen⟩ := make_ok2 h
  obtain ⟨h4, hone⟩ := check_ok hc
  have hs := sum4_length (bodyB l)
  have hl : (pageB l).length = (bodyB l).length + 4 := by unfold pageB; rw [List.length_append, hs]
  have hb1 : 1 ≤ (bodyB l).length := by
    rw [body_eq, List.length_append]
    have := smallF_pos l.length
    omega
  have ht : (pageB l).take ((pageB l).length - 4) = bodyB l := by rw [hl, Nat.add_sub_cancel]; unfold pageB; rw [List.take_left]
  have hd : (pageB l).drop ((pageB l).length - 4) = sum4 (bodyB l) := by rw [hl, Nat.add_sub_cancel]; unfold pageB; rw [List.drop_left]
  have hgood : ¬ badB (pageB l) := by
    rintro (h1 | h1 | h1)
    · omega
    · omega
    · rw [ht, hd] at h1; exact h1 rfl
  have hn : numP 4096 ((pageB l).take ((pageB l).length - 4), false) = (l.length, (tailB [] l, false)) := by
    rw [ht, body_eq]
    exact numP_small _ _ (by omega) h4
  rw [readE_some (l := l) hgood (by rw [hn]; exact loop_back l [] [] hone), if_neg]
  rintro (h1 | h1)
  · exact h1 h
  · exact h1 (make_ok h)
end page
end Go.Proofs.Ytgolflhoajafhaa
