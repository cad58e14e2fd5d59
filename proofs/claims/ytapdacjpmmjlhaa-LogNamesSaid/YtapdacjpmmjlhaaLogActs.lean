
/-
  Layer 5, plain: what the acts that add, that empty come to.
-/
import Derived.Test.YtapdacjpmmjlhaaLogTorn
import Derived.Test.YtapdacjpmmjlhaaLaw02e
set_option linter.unusedVariables false
set_option linter.unusedSimpArgs false
namespace Go.Proofs.Ytapdacjpmmjlhaa
open Go disk
namespace log
theorem headF_congr {d x : Disk} (h : readF x 16 = readF d 16) : headF x = headF d := by unfold headF headN; rw [h]
theorem there_of {x : Disk} (h : checkF x = 0) (h2 : 80 ≤ x.count) : thereF x = 0 := by unfold thereF; rw [if_neg (fun hh => hh h), if_neg (by omega)]
theorem do_snoc {d x : Disk} {l : List disk.Act} (h : doF d l = (x, 0)) (a : disk.Act) : doF d (l ++ [a]) = doF x [a] := doF_first_ok h
theorem do_put {x : Disk} {n : Int} {b : Bs} (h : checkF x = 0) (h1 : 0 ≤ n) (h2 : n < x.count) (h3 : b.length = 128) (h4 : x.waits.length < 4096) : doF x [⟨false, n, b⟩] = ({ x with waits := x.waits ++ [⟨n, b⟩] }, 0) := by
  unfold doF
  rw [if_neg (by simp [h]), doN, if_neg (show ¬ false = true by decide), if_neg (show ¬ (n < 0 ∨ x.count ≤ n) by omega), if_neg (show ¬ ¬ ((b.length : Nat) : Int) = 128 by rw [h3]; decide), if_neg (show ¬ 4096 ≤ x.waits.length by omega), doN]
theorem do_acts {d : Disk} (hc : checkF d = 0) (b : Bs) (n : Nat) : ∀ k : Nat, (∀ i, i < k → ((b.drop (i * 128)).take 128).length = 128) → ((n + k : Nat) : Int) ≤ d.count → d.waits.length + k ≤ 4096 →
    ∃ x, doF d (actsTo n b k) = (x, 0) ∧ checkF x = 0 ∧ x.count = d.count ∧ x.waits.length = d.waits.length + k ∧ x.data = d.data ∧ (∀ m : Nat, readF x (m : Int) = if n ≤ m ∧ m < n + k then (b.drop ((m - n) * 128)).take 128 else readF d (m : Int))
  | 0, _, _, _ => ⟨d, by unfold doF actsTo; rw [if_neg (by simp [hc])]; rfl, hc, rfl, rfl, rfl, fun m => by rw [if_neg (by omega)]⟩
  | k + 1, h1, h2, h3 => by
    obtain ⟨x, e1, e2, e3, e4, e5, e6⟩ := do_acts hc b n k (fun i hi => h1 i (by omega)) (by omega) (by omega)
    have hp := do_put (x := x) (n := ((n + k : Nat) : Int)) (b := (b.drop (k * 128)).take 128) e2 (by omega) (by omega) (h1 k (by omega)) (by omega)
    refine ⟨_, by rw [actsTo_succ, do_snoc e1]; exact hp, check_put e2 (by omega) ⟨by show 0 ≤ ((n + k : Nat) : Int); omega, by show ((n + k : Nat) : Int) < _; omega, h1 k (by omega)⟩, e3, ?_, e5, fun m => ?_⟩
    · show (x.waits ++ [_]).length = _
      simp [e4]; omega
    · by_cases hm : m = n + k
      · subst hm
        rw [readF_put_same, if_pos (by omega), show n + k - n = k by omega]
      · rw [readF_put_other (by omega), e6]
        by_cases hh : n ≤ m ∧ m < n + k
        · rw [if_pos hh, if_pos (by omega)]
        · rw [if_neg hh, if_neg (by omega)]
theorem frame_at {E s p : UInt32} {r : Bs} {i : Nat} (hi : i < needs r.length) : ((frameL E s p r).drop (i * 128)).take 128 = sectorOf E s p r (needs r.length) i := by
  rw [Nat.mul_comm]
  exact secAt_frame E s p r (needs r.length) (needs r.length) i hi
/-- where an added record's acts are good -/
theorem add_ok {d : Disk} {r : Bs} (h : (addF d r).2 = 0) : (stateF d).2 = 0 ∧ r.length ≤ 4096 ∧ (stateF d).1.at' + needs r.length ≤ 63 ∧ ¬ saltF d (stateF d).1.epoch (stateF d).1.at' = 4294967295 ∧
    (addF d r).1 = actsTo (17 + (stateF d).1.at') (frameL (stateF d).1.epoch (saltF d (stateF d).1.epoch (stateF d).1.at' + 1) (stateF d).1.last r) (needs r.length) := by
  by_cases h1 : (stateF d).2 = 0
  · by_cases h2 : 4096 < r.length
    · rw [add_long h1 h2] at h; cases h
    · by_cases h3 : 63 < (stateF d).1.at' + needs r.length
      · rw [add_full h1 h2 h3] at h; cases h
      · by_cases h4 : saltF d (stateF d).1.epoch (stateF d).1.at' = 4294967295
        · rw [add_salt h1 h2 h3 h4] at h; cases h
        · exact ⟨h1, by omega, by omega, h4, by rw [add_good h1 h2 h3 h4]⟩
  · rw [add_err h1] at h; exact absurd h h1
/-- what one record adds: its place, its salt; the old sectors from there on have lesser ones -/
theorem add_V {d : Disk} {r : Bs} (h : (addF d r).2 = 0) : ∃ s, ¬ s = 0 ∧ r.length ≤ 4096 ∧ (stateF d).1.at' + needs r.length ≤ 63 ∧ (addF d r).1 = actsTo (17 + (stateF d).1.at') (frameL (stateF d).1.epoch s (stateF d).1.last r) (needs r.length) ∧
    (∀ q, (stateF d).1.at' ≤ q → q < 63 → get4 (sec d q) = (stateF d).1.epoch → (get4 ((sec d q).drop 4)).toNat < s.toNat ∧ (get4 ((sec d q).drop 8)).toNat < s.toNat) := by
  obtain ⟨h1, h2, h3, h4, h5⟩ := add_ok h
  obtain ⟨h6, h7⟩ := u32_succ_ne h4
  refine ⟨_, h6, h2, h3, h5, fun q hq1 hq2 hq3 => ?_⟩
  have := saltTo_ge (d := d) (stateF d).1.epoch (stateF d).1.at' (63 - (stateF d).1.at') q hq1 (by omega) hq3
  rw [h7]
  unfold saltF
  omega
/-- behind the acts there is one record more -/
theorem grows {d : Disk} {r : Bs} (h : (addF d r).2 = 0) (hw : d.waits.length ≤ 4000) :
    ∃ x s, doF d (addF d r).1 = (x, 0) ∧ checkF x = 0 ∧ x.count = d.count ∧ x.waits.length ≤ d.waits.length + 37 ∧ readF x 16 = readF d 16 ∧
      stateF x = (⟨(stateF d).1.epoch, s, (stateF d).1.recs ++ [r], (stateF d).1.at' + needs r.length⟩, 0) ∧ ¬ s = 0 ∧
      (∀ q, sec x q = if (stateF d).1.at' ≤ q ∧ q < (stateF d).1.at' + needs r.length then sectorOf (stateF d).1.epoch s (stateF d).1.last r (needs r.length) (q - (stateF d).1.at') else sec d q) ∧
      (∀ q, (stateF d).1.at' ≤ q → q < 63 → get4 (sec d q) = (stateF d).1.epoch → (get4 ((sec d q).drop 4)).toNat < s.toNat ∧ (get4 ((sec d q).drop 8)).toNat < s.toNat) ∧
      (addF d r).1 = actsTo (17 + (stateF d).1.at') (frameL (stateF d).1.epoch s (stateF d).1.last r) (needs r.length) ∧ r.length ≤ 4096 ∧ (stateF d).1.at' + needs r.length ≤ 63 := by
  obtain ⟨s, hs, hr, hfit, ha, hold⟩ := add_V h
  obtain ⟨hst, _⟩ := add_ok h
  obtain ⟨hth, hh, he, hch, hsp, h63⟩ := state_chain hst
  obtain ⟨hck, hct⟩ := there_ok hth
  have hn := needs_bd hr
  obtain ⟨x, x1, x2, x3, x4, x5, x6⟩ := do_acts hck (frameL (stateF d).1.epoch s (stateF d).1.last r) (17 + (stateF d).1.at') (needs r.length) (fun i hi => by rw [frame_at hi, sectorOf_length]) (by omega) (by omega)
  have hsec : ∀ q, sec x q = if (stateF d).1.at' ≤ q ∧ q < (stateF d).1.at' + needs r.length then sectorOf (stateF d).1.epoch s (stateF d).1.last r (needs r.length) (q - (stateF d).1.at') else sec d q := by
    intro q
    unfold sec
    rw [x6]
    by_cases hq : (stateF d).1.at' ≤ q ∧ q < (stateF d).1.at' + needs r.length
    · rw [if_pos (by omega), if_pos hq, show 17 + q - (17 + (stateF d).1.at') = q - (stateF d).1.at' by omega, frame_at (by omega)]
    · rw [if_neg (by omega), if_neg hq]
  have h16 : readF x 16 = readF d 16 := by have := x6 16; rw [if_neg (by omega)] at this; exact this
  refine ⟨x, s, by rw [ha]; exact x1, x2, x3, by omega, h16, ?_, hs, hsec, hold, ha, hr, hfit⟩
  have hE : ¬ (stateF d).1.epoch = 0 := by rw [he]; exact hh
  have hAdds : Adds (sec d) (stateF d).1.epoch (sec x) (stateF d).1.last (stateF d).1.at' [r] :=
    .cons ⟨hE, hs, hr, hfit, fun q hq => by rw [hsec, if_pos (by omega), show (stateF d).1.at' + q - (stateF d).1.at' = q by omega]⟩ hold .nil
  have htot : tot [r] = needs r.length := by simp [tot]
  obtain ⟨m, p', a', t1, t2, t3, t4, t5⟩ := torn (g := sec x) hAdds (fun q h1 h2 => by
    by_cases hq : q < (stateF d).1.at' + needs r.length
    · exact .inr ⟨by rw [htot]; exact hq, rfl⟩
    · exact .inl (by rw [hsec, if_neg (by omega)])) (.inl (by rw [he]; exact hsp))
  obtain rfl : m = 1 := by have := t4 1 (Nat.le_refl _) (fun q _ _ => rfl); simp at t1; omega
  have hc0 : Chain (sec x) (stateF d).1.epoch 0 0 (stateF d).1.recs (stateF d).1.last (stateF d).1.at' := by
    rw [he]; exact hch.congr (fun q _ h2 => by rw [hsec, if_neg (by omega)])
  have hx : headF x = (stateF d).1.epoch := by rw [headF_congr h16, he]
  have hfin := state_of (there_of x2 (by rw [x3]; exact hct)) (by rw [hx]; exact hE) (by rw [hx]; exact hc0.append t2) (by rw [hx]; exact t3)
  rw [hfin, hx, t5]
  cases t2 with
  | cons hv hc =>
    cases hc with
    | nil =>
      have e0 := hv.at' 0 (by omega)
      rw [Nat.add_zero, hsec, if_pos (by omega), Nat.sub_self] at e0
      have es := congrArg (fun l => get4 (l.drop 4)) e0
      simp only [sector_salt] at es
      rw [← es]
      simp [htot]
theorem getTo_4 (a b c e : UInt8) : getTo [a, b, c, e, 0, 0, 0, 0] 8 = a.toNat + b.toNat * 256 + c.toNat * 65536 + e.toNat * 16777216 := by
  show ((((((((0 + a.toNat * 2 ^ (8 * 0)) + b.toNat * 2 ^ (8 * 1)) + c.toNat * 2 ^ (8 * 2)) + e.toNat * 2 ^ (8 * 3)) + 0 * 2 ^ (8 * 4)) + 0 * 2 ^ (8 * 5)) + 0 * 2 ^ (8 * 6)) + 0 * 2 ^ (8 * 7)) = _
  omega
theorem head_of {x : Disk} {e : UInt32} (h : readF x 16 = clearB e) : headF x = e := by
  have h4 := get4_put4 e []
  rw [List.append_nil] at h4
  obtain ⟨a, b, c, f, hp⟩ := four (put4_length e)
  have hb : headN x = a.toNat + b.toNat * 256 + c.toNat * 65536 + f.toNat * 16777216 := by
    unfold headN
    rw [h, show (clearB e).take 8 = put4 e ++ [0, 0, 0, 0] by unfold clearB; rw [hp]; rfl, hp]
    exact getTo_4 a b c f
  rw [hp, get4_bytes] at h4
  have ha := a.toNat_lt
  have hb' := b.toNat_lt
  have hc := c.toNat_lt
  have hf := f.toNat_lt
  unfold headF
  rw [if_pos ⟨by rw [hb]; omega, by rw [h]; unfold clearB; rw [hp]; rfl⟩, hb]
  exact h4
theorem get4_clear (e : UInt32) : (clearB e).length = 128 := clearB_length e
/-- a head alone: an empty log, at an epoch that no sector has -/
theorem state_fresh {x : Disk} {e : UInt32} (hck : checkF x = 0) (hct : 80 ≤ x.count) (h : headF x = e) (he : ¬ e = 0) (hall : ¬ get4 (sec x 0) = e) : stateF x = (⟨e, 0, [], 0⟩, 0) := by
  subst h
  refine state_of (there_of hck hct) he .nil (fun r s hv => ?_)
  have h0 := hv.at' 0 (by have := needs_pos r.length; omega)
  rw [Nat.add_zero] at h0
  exact hall (by rw [h0, sector_epoch])
theorem clear_ok {d : Disk} (h : (clearF d).2 = 0) : thereF d = 0 ∧ ¬ epochTo d 63 = 4294967295 ∧ (clearF d).1 = [⟨false, ⟨16, clearB (epochTo d 63 + 1)⟩⟩, ⟨true, ⟨0, []⟩⟩] := by
  by_cases h1 : thereF d = 0
  · by_cases h2 : epochTo d 63 = 4294967295
    · rw [clear_full h1 h2] at h; cases h
    · exact ⟨h1, h2, by rw [clear_good h1 h2]⟩
  · rw [clear_err h1] at h; exact absurd h h1
/-- behind the acts that empty a log it is empty, at a greater epoch -/
theorem empties {d : Disk} (h : (clearF d).2 = 0) (hw : d.waits.length ≤ 4000) : ∃ x, doF d (clearF d).1 = (x, 0) ∧ checkF x = 0 ∧ x.count = d.count ∧ x.waits = [] ∧ stateF x = (⟨epochTo d 63 + 1, 0, [], 0⟩, 0) ∧ (headF d).toNat < (epochTo d 63 + 1).toNat := by
  obtain ⟨h1, h2, h3⟩ := clear_ok h
  obtain ⟨hck, hct⟩ := there_ok h1
  obtain ⟨h4, h5⟩ := u32_succ_ne h2
  have hp := do_put (x := d) (n := 16) (b := clearB (epochTo d 63 + 1)) hck (by omega) (by omega) (clearB_length _) (by omega)
  have hc2 := check_put (p := ⟨16, clearB (epochTo d 63 + 1)⟩) hck (by omega) ⟨by show (0 : Int) ≤ 16; decide, by show (16 : Int) < d.count; omega, clearB_length _⟩
  obtain ⟨g1, g2⟩ := epochTo_ge (d := d) 63
  have hr : ∀ n : Int, 0 ≤ n → n < d.count → readF (settleD { d with waits := d.waits ++ [⟨16, clearB (epochTo d 63 + 1)⟩] } (fun _ => true)) n = readF { d with waits := d.waits ++ [⟨16, clearB (epochTo d 63 + 1)⟩] } n := fun n n1 n2 => by
    rw [readF_settle]; exact flush_read hc2 n1 n2
  refine ⟨_, ?_, check_settle hc2 (fun _ => true), rfl, rfl, ?_, by rw [h5]; omega⟩
  · rw [h3, show ([⟨false, ⟨16, clearB (epochTo d 63 + 1)⟩⟩, ⟨true, ⟨0, []⟩⟩] : List disk.Act) = [⟨false, ⟨16, clearB (epochTo d 63 + 1)⟩⟩] ++ [⟨true, ⟨0, []⟩⟩] from rfl, do_snoc hp]
    exact flush_ok hc2
  · refine state_fresh (check_settle hc2 (fun _ => true)) hct (head_of (by rw [hr 16 (by omega) (by omega), readF_put_same])) h4 (fun hg => ?_)
    have e : sec (settleD { d with waits := d.waits ++ [⟨16, clearB (epochTo d 63 + 1)⟩] } (fun _ => true)) 0 = sec d 0 := by
      unfold sec
      rw [hr _ (by omega) (by omega), readF_put_other (by decide)]
    rw [e] at hg
    have := g2 0 (by omega)
    rw [hg, h5] at this
    omega
/-- a new disk -/
theorem zero_read {c : Nat} {n : Int} (h0 : 0 ≤ n) (hn : n < c) : readF ⟨c, List.replicate (c * 128) 0, []⟩ n = List.replicate 128 0 := by
  unfold readF
  show ((List.replicate (c * 128) (0 : UInt8)).drop (n.toNat * 128)).take 128 = _
  rw [List.drop_replicate, List.take_replicate, Nat.min_eq_left (by omega)]
theorem new_zero {c : Nat} (h1 : 1 ≤ c) (h2 : c ≤ 4096) : newF (c : Int) = (⟨c, List.replicate (c * 128) 0, []⟩, 0) ∧ checkF ⟨c, List.replicate (c * 128) 0, []⟩ = 0 := by
  refine ⟨by unfold newF; rw [if_neg (by omega)]; rfl, check_of (by show (1 : Int) ≤ c; omega) (by show (c : Int) ≤ 4096; omega) (by show ((List.replicate (c * 128) (0 : UInt8)).length : Int) = (c : Int) * 128; rw [List.length_replicate]; omega) (Nat.zero_le _) (fun p hp => by cases hp)⟩
def Z100 : Disk := ⟨100, List.replicate (100 * 128) 0, []⟩
theorem z100 : newF 100 = (Z100, 0) ∧ checkF Z100 = 0 := new_zero (c := 100) (by omega) (by omega)
theorem z100_read {n : Int} (h0 : 0 ≤ n) (hn : n < 100) : readF Z100 n = List.replicate 128 0 := zero_read (c := 100) h0 hn
theorem zero_clear : List.replicate 128 0 = clearB 0 := by
  unfold clearB
  rw [show put4 0 = List.replicate 4 0 from rfl, List.replicate_append_replicate]
theorem get4_zero : get4 (List.replicate 128 0) = 0 := by rw [zero_clear]; exact get4_put4 0 _
theorem z100_head : headF Z100 = 0 := head_of (by rw [z100_read (by omega) (by omega), zero_clear])
theorem z100_epoch : ∀ k, k ≤ 63 → epochTo Z100 k = 0
  | 0, _ => z100_head
  | k + 1, h => by
    have e : epochTo Z100 (k + 1) = max (epochTo Z100 k) (get4 (readF Z100 ((17 + k : Nat) : Int))) := rfl
    rw [e, z100_epoch k (by omega), z100_read (by omega) (by omega), get4_zero]
    rfl
theorem z100_state : stateF Z100 = (noLog, 50) := state_head (there_of z100.2 (by show (80 : Int) ≤ 100; decide)) z100_head
theorem z100_clear : clearF Z100 = ([⟨false, ⟨16, clearB 1⟩⟩, ⟨true, ⟨0, []⟩⟩], 0) := by
  have h := clear_good (d := Z100) (there_of z100.2 (by show (80 : Int) ≤ 100; decide)) (by rw [z100_epoch 63 (Nat.le_refl _)]; decide)
  rw [z100_epoch 63 (Nat.le_refl _)] at h
  exact h
end log
end Go.Proofs.Ytapdacjpmmjlhaa
